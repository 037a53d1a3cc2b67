-- packed by pack.py, a program of this claim's repo
import Derived.Test.YtjohfkpgghnpeaaIxC
import Derived.Test.YtjohfkpgghnpeaaIxD
import Derived.Test.YtjohfkpgghnpeaaIxE
import Derived.Test.YtjohfkpgghnpeaaIxB
import Derived.Test.YtjohfkpgghnpeaaIxF
import Derived.Test.YtjohfkpgghnpeaaIxG
import Derived.Test.YtjohfkpgghnpeaaIxH
import Derived.Test.YtjohfkpgghnpeaaIxA
import Derived.Test.YtjohfkpgghnpeaaIxI
import Derived.Test.YtjohfkpgghnpeaaIxJ
import Derived.Test.YtjohfkpgghnpeaaIxK
import Derived.Test.YtjohfkpgghnpeaaIxL
import Derived.Test.YtjohfkpgghnpeaaIxM
import Derived.Test.YtjohfkpgghnpeaaIxN
import Derived.Test.YtjohfkpgghnpeaaIxO
import Derived.Test.YtjohfkpgghnpeaaIxP
import Derived.Test.YtjohfkpgghnpeaaIxQ
import Derived.Test.YtjohfkpgghnpeaaIxR
import Derived.Test.YtjohfkpgghnpeaaIxS
import Derived.Test.YtjohfkpgghnpeaaIxT
import Derived.Test.YtjohfkpgghnpeaaIxU
import Derived.Test.YtjohfkpgghnpeaaIxV
import Derived.Test.YtjohfkpgghnpeaaIxW
import Derived.Test.YtjohfkpgghnpeaaIxX
import Derived.Test.YtjohfkpgghnpeaaRows
import Derived.WalkKit
import Derived.ProofKit
import Derived.OpenShut
import Derived.ShutString
import Derived.ChangeOld
import Derived.Below
import Derived.SizedLaws
section
namespace Go.Proofs.Ytjohfkpgghnpeaa.extentsOf
open Go.ChangeShapes Go.WideShapes Go.ChangeAt Go.RowKit
open Go.ChangeMaps (open_string shut_string)
set_option linter.unusedVariables false
theorem own : ownKnob Try.prog.godebug = none := by kernel_rfl
theorem laidOut : laidOutB Try.prog = true := by kernel_rfl
set_option maxRecDepth 100000 in
theorem lifted (os : Os) (started : os.Started) (H : Type) (enc : TypeId × Value → H) :
    ReturnsInHanded {} Try.checked os 3 .any (Rows.extentsOfSpec.pre6 enc Try.prog Try.f3 Rows.extentsOfRow.domain false) (Rows.extentsOfSpec.post enc Try.prog Try.f3 false true false false) := by
  refine returnsInHanded_of_change_sized (C := Try.checked) own started (by kernel_rfl) Try.func3
    (ChangeSpec.witness6 (enc := enc) (C := Try.checked) false ⟨#[], #[.slice none 0 0], []⟩ 8 (by kernel_rfl) (by kernel_rfl) (by kernel_rfl) (by kernel_rfl)) ?_
  intro W base args ds gs before hval0 hW hcnd hsz0 _
  have hsz : (DataW.weightsEach Try.prog (Try.f3.params.toList ++ Rows.extentsOfSpec.plain.varTypes Try.prog) (ds ++ gs)).all (· ≤ reachBytes) = true := hsz0
  have hval : ∀ (j : Nat) t v, Try.f3.params[j]? = some t → args[j]? = some v → Value.okWide Try.prog W .any base t v := hval0
  have hW' := hW
  obtain ⟨p, q, hA0, hV, rfl, hfz, hnd⟩ := hW
  have hA : DataW.TrodAll enc Try.prog W 0 (fun _ => true) true Try.f3.params.toList args.toList ds p := hA0
  rw [Try.params3] at hA hval hsz
  obtain ⟨v0, vs0, d0, ds0, p0, q0, hargs, rfl, rfl, h0, r0⟩ := trodAll_cons hA
  obtain ⟨rfl, rfl, rfl⟩ := trodAll_nil r0
  obtain rfl : args = #[v0] := by cases args; simp_all
  obtain ⟨rfl, rfl⟩ := trodVars_none hV
  have ok0 := hval 0 22 v0 rfl rfl
  have lt0 : ∀ x ∈ p0, x.block < W.heap.size := by obtain ⟨m, hm⟩ := h0; exact DataW.trod_lt m _ _ _ hm
  clear hA0 hval0 hsz0
  refine (walk (W := W) ok0 h0).mono fun e W' ⟨he, bel⟩ => ?_
  subst he
  exact ⟨_, rfl, _, _, _, [], _, [], hW', trodAll_mk1 (shut_bool Try.underlying4 _), (trodAll_cons_mk (Below.trod laidOut (by kernel_rfl) (of_decide_eq_true (by kernel_rfl)) h0 bel lt0) trodAll_mk0), rfl, bel.frame _, fun h => by cases h⟩
theorem over : Rows.extentsOfRow.holds Try.pinned (OpenSpec.ofChange Rows.extentsOfSpec) :=
  OpenClaim.holds_of_wide 3 Try.f3 rfl rfl rfl rfl rfl rfl rfl ⟨rfl, rfl, rfl, rfl, rfl⟩ rfl rfl rfl rfl rfl (by kernel_rfl) Try.func3 (by kernel_rfl)
    (of_decide_eq_true (by kernel_rfl)) (by unfold Func.isWrapper; first | (rw [if_pos (by decide +kernel)]; kernel_rfl) | (rw [if_neg (by decide +kernel)]; exact ⟨rfl, rfl⟩))
    (fun os started H enc _ => lifted os started H enc)
theorem proved : Rows.ExtentsOfSaid := over
end Go.Proofs.Ytjohfkpgghnpeaa.extentsOf
namespace Go.Proofs.Ytjohfkpgghnpeaa
theorem extentsOf_holds : Rows.ExtentsOfSaid := extentsOf.proved
end Go.Proofs.Ytjohfkpgghnpeaa
end
