-- packed by pack.py, a program of this claim's repo
import Derived.Test.YtjohfkpgghnpeaaIqC
import Derived.Test.YtjohfkpgghnpeaaIqD
import Derived.Test.YtjohfkpgghnpeaaIqE
import Derived.Test.YtjohfkpgghnpeaaIqB
import Derived.Test.YtjohfkpgghnpeaaIqF
import Derived.Test.YtjohfkpgghnpeaaIqG
import Derived.Test.YtjohfkpgghnpeaaIqH
import Derived.Test.YtjohfkpgghnpeaaIqA
import Derived.Test.YtjohfkpgghnpeaaIqI
import Derived.Test.YtjohfkpgghnpeaaIqJ
import Derived.Test.YtjohfkpgghnpeaaIqK
import Derived.Test.YtjohfkpgghnpeaaIqL
import Derived.Test.YtjohfkpgghnpeaaIqM
import Derived.Test.YtjohfkpgghnpeaaIqN
import Derived.Test.YtjohfkpgghnpeaaIqO
import Derived.Test.YtjohfkpgghnpeaaIqP
import Derived.Test.YtjohfkpgghnpeaaIqQ
import Derived.Test.YtjohfkpgghnpeaaIqR
import Derived.Test.YtjohfkpgghnpeaaIqS
import Derived.Test.YtjohfkpgghnpeaaIqT
import Derived.Test.YtjohfkpgghnpeaaIqU
import Derived.Test.YtjohfkpgghnpeaaIqV
import Derived.Test.YtjohfkpgghnpeaaIqW
import Derived.Test.YtjohfkpgghnpeaaIqX
import Derived.Test.YtjohfkpgghnpeaaIqY
import Derived.Test.YtjohfkpgghnpeaaRows
import Derived.WalkKit
import Derived.ProofKit
import Derived.OpenShut
import Derived.ShutString
import Derived.ChangeOld
import Derived.Below
import Derived.SizedLaws
section
namespace Go.Proofs.Ytjohfkpgghnpeaa.itemsPlay
open Go.ChangeShapes Go.WideShapes Go.ChangeAt Go.RowKit
open Go.ChangeMaps (open_string shut_string)
set_option linter.unusedVariables false
theorem own : ownKnob Try.prog.godebug = none := by kernel_rfl
theorem laidOut : laidOutB Try.prog = true := by kernel_rfl
set_option maxRecDepth 100000 in
theorem lifted (os : Os) (started : os.Started) (H : Type) (enc : TypeId × Value → H) :
    ReturnsInHanded {} Try.checked os 5 .any (Rows.itemsPlaySpec.pre6 enc Try.prog Try.f5 Rows.itemsPlayRow.domain false) (Rows.itemsPlaySpec.post enc Try.prog Try.f5 false true false false) := by
  refine returnsInHanded_of_change_sized (C := Try.checked) own started (by kernel_rfl) Try.func5
    (ChangeSpec.witness6 (enc := enc) (C := Try.checked) false ⟨#[], #[.slice none 0 0], []⟩ 8 (by kernel_rfl) (by kernel_rfl) (by kernel_rfl) (by kernel_rfl)) ?_
  intro W base args ds gs before hval0 hW hcnd hsz0 _
  have hsz : (DataW.weightsEach Try.prog (Try.f5.params.toList ++ Rows.itemsPlaySpec.plain.varTypes Try.prog) (ds ++ gs)).all (· ≤ reachBytes) = true := hsz0
  have hval : ∀ (j : Nat) t v, Try.f5.params[j]? = some t → args[j]? = some v → Value.okWide Try.prog W .any base t v := hval0
  have hW' := hW
  obtain ⟨p, q, hA0, hV, rfl, hfz, hnd⟩ := hW
  have hA : DataW.TrodAll enc Try.prog W 0 (fun _ => true) true Try.f5.params.toList args.toList ds p := hA0
  rw [Try.params5] at hA hval hsz
  obtain ⟨v0, vs0, d0, ds0, p0, q0, hargs, rfl, rfl, h0, r0⟩ := trodAll_cons hA
  obtain ⟨rfl, rfl, rfl⟩ := trodAll_nil r0
  obtain rfl : args = #[v0] := by cases args; simp_all
  obtain ⟨rfl, rfl⟩ := trodVars_none hV
  have ok0 := hval 0 48 v0 rfl rfl
  have lt0 : ∀ x ∈ p0, x.block < W.heap.size := by obtain ⟨m, hm⟩ := h0; exact DataW.trod_lt m _ _ _ hm
  clear hA0 hval0 hsz0
  refine (walk (W := W) ok0 h0).mono fun e W' ⟨he, bel⟩ => ?_
  subst he
  exact ⟨_, rfl, _, _, _, [], _, [], hW', trodAll_mk1 (shut_bool Try.underlying4 _), (trodAll_cons_mk (Below.trod laidOut (by kernel_rfl) (of_decide_eq_true (by kernel_rfl)) h0 bel lt0) trodAll_mk0), rfl, bel.frame _, fun h => by cases h⟩
theorem over : Rows.itemsPlayRow.holds Try.pinned (OpenSpec.ofChange Rows.itemsPlaySpec) :=
  OpenClaim.holds_of_wide 5 Try.f5 rfl rfl rfl rfl rfl rfl rfl ⟨rfl, rfl, rfl, rfl, rfl⟩ rfl rfl rfl rfl rfl (by kernel_rfl) Try.func5 (by kernel_rfl)
    (of_decide_eq_true (by kernel_rfl)) (by unfold Func.isWrapper; first | (rw [if_pos (by decide +kernel)]; kernel_rfl) | (rw [if_neg (by decide +kernel)]; exact ⟨rfl, rfl⟩))
    (fun os started H enc _ => lifted os started H enc)
theorem proved : Rows.ItemsPlaySaid := over
end Go.Proofs.Ytjohfkpgghnpeaa.itemsPlay
namespace Go.Proofs.Ytjohfkpgghnpeaa
theorem itemsPlay_holds : Rows.ItemsPlaySaid := itemsPlay.proved
end Go.Proofs.Ytjohfkpgghnpeaa
end
