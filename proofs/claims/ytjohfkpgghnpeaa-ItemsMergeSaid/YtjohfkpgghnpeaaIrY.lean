-- packed by pack.py, a program of this claim's repo
import Derived.Test.YtjohfkpgghnpeaaIrC
import Derived.Test.YtjohfkpgghnpeaaIrD
import Derived.Test.YtjohfkpgghnpeaaIrE
import Derived.Test.YtjohfkpgghnpeaaIrB
import Derived.Test.YtjohfkpgghnpeaaIrF
import Derived.Test.YtjohfkpgghnpeaaIrG
import Derived.Test.YtjohfkpgghnpeaaIrH
import Derived.Test.YtjohfkpgghnpeaaIrA
import Derived.Test.YtjohfkpgghnpeaaIrI
import Derived.Test.YtjohfkpgghnpeaaIrJ
import Derived.Test.YtjohfkpgghnpeaaIrK
import Derived.Test.YtjohfkpgghnpeaaIrL
import Derived.Test.YtjohfkpgghnpeaaIrM
import Derived.Test.YtjohfkpgghnpeaaIrN
import Derived.Test.YtjohfkpgghnpeaaIrO
import Derived.Test.YtjohfkpgghnpeaaIrP
import Derived.Test.YtjohfkpgghnpeaaIrQ
import Derived.Test.YtjohfkpgghnpeaaIrR
import Derived.Test.YtjohfkpgghnpeaaIrS
import Derived.Test.YtjohfkpgghnpeaaIrT
import Derived.Test.YtjohfkpgghnpeaaIrU
import Derived.Test.YtjohfkpgghnpeaaIrV
import Derived.Test.YtjohfkpgghnpeaaIrW
import Derived.Test.YtjohfkpgghnpeaaIrX
import Derived.Test.YtjohfkpgghnpeaaRows
import Derived.WalkKit
import Derived.ProofKit
import Derived.OpenShut
import Derived.ShutString
import Derived.ChangeOld
import Derived.Below
import Derived.SizedLaws
section
namespace Go.Proofs.Ytjohfkpgghnpeaa.itemsMerge
open Go.ChangeShapes Go.WideShapes Go.ChangeAt Go.RowKit
open Go.ChangeMaps (open_string shut_string)
set_option linter.unusedVariables false
theorem own : ownKnob Try.prog.godebug = none := by kernel_rfl
theorem laidOut : laidOutB Try.prog = true := by kernel_rfl
set_option maxRecDepth 100000 in
theorem lifted (os : Os) (started : os.Started) (H : Type) (enc : TypeId × Value → H) :
    ReturnsInHanded {} Try.checked os 7 .any (Rows.itemsMergeSpec.pre6 enc Try.prog Try.f7 Rows.itemsMergeRow.domain false) (Rows.itemsMergeSpec.post enc Try.prog Try.f7 false true false false) := by
  refine returnsInHanded_of_change_sized (C := Try.checked) own started (by kernel_rfl) Try.func7
    (ChangeSpec.witness6 (enc := enc) (C := Try.checked) false ⟨#[], #[.slice none 0 0, .slice none 0 0], []⟩ 8 (by kernel_rfl) (by kernel_rfl) (by kernel_rfl) (by kernel_rfl)) ?_
  intro W base args ds gs before hval0 hW hcnd hsz0 _
  have hsz : (DataW.weightsEach Try.prog (Try.f7.params.toList ++ Rows.itemsMergeSpec.plain.varTypes Try.prog) (ds ++ gs)).all (· ≤ reachBytes) = true := hsz0
  have hval : ∀ (j : Nat) t v, Try.f7.params[j]? = some t → args[j]? = some v → Value.okWide Try.prog W .any base t v := hval0
  have hW' := hW
  obtain ⟨p, q, hA0, hV, rfl, hfz, hnd⟩ := hW
  have hA : DataW.TrodAll enc Try.prog W 0 (fun _ => true) true Try.f7.params.toList args.toList ds p := hA0
  rw [Try.params7] at hA hval hsz
  obtain ⟨v0, vs0, d0, ds0, p0, q0, hargs, rfl, rfl, h0, r0⟩ := trodAll_cons hA
  obtain ⟨v1, vs1, d1, ds1, p1, q1, rfl, rfl, rfl, h1, r1⟩ := trodAll_cons r0
  obtain ⟨rfl, rfl, rfl⟩ := trodAll_nil r1
  obtain rfl : args = #[v0, v1] := by cases args; simp_all
  obtain ⟨rfl, rfl⟩ := trodVars_none hV
  have ok0 := hval 0 22 v0 rfl rfl
  have lt0 : ∀ x ∈ p0, x.block < W.heap.size := by obtain ⟨m, hm⟩ := h0; exact DataW.trod_lt m _ _ _ hm
  have ok1 := hval 1 22 v1 rfl rfl
  have lt1 : ∀ x ∈ p1, x.block < W.heap.size := by obtain ⟨m, hm⟩ := h1; exact DataW.trod_lt m _ _ _ hm
  clear hA0 hval0 hsz0
  refine (walk (W := W) ok0 h0 ok1 h1).mono fun e W' ⟨he, bel⟩ => ?_
  subst he
  exact ⟨_, rfl, _, _, _, [], _, [], hW', trodAll_mk1 (shut_bool Try.underlying4 _), (trodAll_cons_mk (Below.trod laidOut (by kernel_rfl) (of_decide_eq_true (by kernel_rfl)) h0 bel lt0) (trodAll_cons_mk (Below.trod laidOut (by kernel_rfl) (of_decide_eq_true (by kernel_rfl)) h1 bel lt1) trodAll_mk0)), rfl, bel.frame _, fun h => by cases h⟩
theorem over : Rows.itemsMergeRow.holds Try.pinned (OpenSpec.ofChange Rows.itemsMergeSpec) :=
  OpenClaim.holds_of_wide 7 Try.f7 rfl rfl rfl rfl rfl rfl rfl ⟨rfl, rfl, rfl, rfl, rfl⟩ rfl rfl rfl rfl rfl (by kernel_rfl) Try.func7 (by kernel_rfl)
    (of_decide_eq_true (by kernel_rfl)) (by unfold Func.isWrapper; first | (rw [if_pos (by decide +kernel)]; kernel_rfl) | (rw [if_neg (by decide +kernel)]; exact ⟨rfl, rfl⟩))
    (fun os started H enc _ => lifted os started H enc)
theorem proved : Rows.ItemsMergeSaid := over
end Go.Proofs.Ytjohfkpgghnpeaa.itemsMerge
namespace Go.Proofs.Ytjohfkpgghnpeaa
theorem itemsMerge_holds : Rows.ItemsMergeSaid := itemsMerge.proved
end Go.Proofs.Ytjohfkpgghnpeaa
end
