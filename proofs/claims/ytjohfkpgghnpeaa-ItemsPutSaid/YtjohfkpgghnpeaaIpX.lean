-- packed by pack.py, a program of this claim's repo
import Derived.Test.YtjohfkpgghnpeaaIpC
import Derived.Test.YtjohfkpgghnpeaaIpD
import Derived.Test.YtjohfkpgghnpeaaIpE
import Derived.Test.YtjohfkpgghnpeaaIpB
import Derived.Test.YtjohfkpgghnpeaaIpF
import Derived.Test.YtjohfkpgghnpeaaIpG
import Derived.Test.YtjohfkpgghnpeaaIpH
import Derived.Test.YtjohfkpgghnpeaaIpA
import Derived.Test.YtjohfkpgghnpeaaIpI
import Derived.Test.YtjohfkpgghnpeaaIpJ
import Derived.Test.YtjohfkpgghnpeaaIpK
import Derived.Test.YtjohfkpgghnpeaaIpL
import Derived.Test.YtjohfkpgghnpeaaIpM
import Derived.Test.YtjohfkpgghnpeaaIpN
import Derived.Test.YtjohfkpgghnpeaaIpO
import Derived.Test.YtjohfkpgghnpeaaIpP
import Derived.Test.YtjohfkpgghnpeaaIpQ
import Derived.Test.YtjohfkpgghnpeaaIpR
import Derived.Test.YtjohfkpgghnpeaaIpS
import Derived.Test.YtjohfkpgghnpeaaIpT
import Derived.Test.YtjohfkpgghnpeaaIpU
import Derived.Test.YtjohfkpgghnpeaaIpV
import Derived.Test.YtjohfkpgghnpeaaIpW
import Derived.Test.YtjohfkpgghnpeaaRows
import Derived.WalkKit
import Derived.ProofKit
import Derived.OpenShut
import Derived.ShutString
import Derived.ChangeOld
import Derived.Below
import Derived.SizedLaws
section
namespace Go.Proofs.Ytjohfkpgghnpeaa.itemsPut
open Go.ChangeShapes Go.WideShapes Go.ChangeAt Go.RowKit
open Go.ChangeMaps (open_string shut_string)
set_option linter.unusedVariables false
theorem own : ownKnob Try.prog.godebug = none := by kernel_rfl
theorem laidOut : laidOutB Try.prog = true := by kernel_rfl
set_option maxRecDepth 100000 in
theorem lifted (os : Os) (started : os.Started) (H : Type) (enc : TypeId × Value → H) :
    ReturnsInHanded {} Try.checked os 12 .any (Rows.itemsPutSpec.pre6 enc Try.prog Try.f12 Rows.itemsPutRow.domain false) (Rows.itemsPutSpec.post enc Try.prog Try.f12 false true false false) := by
  refine returnsInHanded_of_change_sized (C := Try.checked) own started (by kernel_rfl) Try.func12
    (ChangeSpec.witness6 (enc := enc) (C := Try.checked) false ⟨#[], #[.slice none 0 0], []⟩ 8 (by kernel_rfl) (by kernel_rfl) (by kernel_rfl) (by kernel_rfl)) ?_
  intro W base args ds gs before hval0 hW hcnd hsz0 _
  have hsz : (DataW.weightsEach Try.prog (Try.f12.params.toList ++ Rows.itemsPutSpec.plain.varTypes Try.prog) (ds ++ gs)).all (· ≤ reachBytes) = true := hsz0
  have hval : ∀ (j : Nat) t v, Try.f12.params[j]? = some t → args[j]? = some v → Value.okWide Try.prog W .any base t v := hval0
  have hW' := hW
  obtain ⟨p, q, hA0, hV, rfl, hfz, hnd⟩ := hW
  have hA : DataW.TrodAll enc Try.prog W 0 (fun _ => true) true Try.f12.params.toList args.toList ds p := hA0
  rw [Try.params12] at hA hval hsz
  obtain ⟨v0, vs0, d0, ds0, p0, q0, hargs, rfl, rfl, h0, r0⟩ := trodAll_cons hA
  obtain ⟨rfl, rfl, rfl⟩ := trodAll_nil r0
  obtain rfl : args = #[v0] := by cases args; simp_all
  obtain ⟨rfl, rfl⟩ := trodVars_none hV
  have ok0 := hval 0 22 v0 rfl rfl
  have lt0 : ∀ x ∈ p0, x.block < W.heap.size := by obtain ⟨m, hm⟩ := h0; exact DataW.trod_lt m _ _ _ hm
  clear hA0 hval0 hsz0
  refine (walk (W := W) ok0 h0).mono fun e W' ⟨he, bel⟩ => ?_
  subst he
  exact ⟨_, rfl, _, _, _, [], _, [], hW', trodAll_mk1 (shut_bool Try.underlying4 _), (trodAll_cons_mk (Below.trod laidOut (by kernel_rfl) (of_decide_eq_true (by kernel_rfl)) h0 bel lt0) trodAll_mk0), rfl, bel.frame _, fun h => by cases h⟩
theorem over : Rows.itemsPutRow.holds Try.pinned (OpenSpec.ofChange Rows.itemsPutSpec) :=
  OpenClaim.holds_of_wide 12 Try.f12 rfl rfl rfl rfl rfl rfl rfl ⟨rfl, rfl, rfl, rfl, rfl⟩ rfl rfl rfl rfl rfl (by kernel_rfl) Try.func12 (by kernel_rfl)
    (of_decide_eq_true (by kernel_rfl)) (by unfold Func.isWrapper; first | (rw [if_pos (by decide +kernel)]; kernel_rfl) | (rw [if_neg (by decide +kernel)]; exact ⟨rfl, rfl⟩))
    (fun os started H enc _ => lifted os started H enc)
theorem proved : Rows.ItemsPutSaid := over
end Go.Proofs.Ytjohfkpgghnpeaa.itemsPut
namespace Go.Proofs.Ytjohfkpgghnpeaa
theorem itemsPut_holds : Rows.ItemsPutSaid := itemsPut.proved
end Go.Proofs.Ytjohfkpgghnpeaa
end
