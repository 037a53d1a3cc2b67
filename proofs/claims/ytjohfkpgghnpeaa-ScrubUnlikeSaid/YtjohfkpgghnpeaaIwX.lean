-- packed by pack.py, a program of this claim's repo
import Derived.Test.YtjohfkpgghnpeaaIwC
import Derived.Test.YtjohfkpgghnpeaaIwD
import Derived.Test.YtjohfkpgghnpeaaIwE
import Derived.Test.YtjohfkpgghnpeaaIwB
import Derived.Test.YtjohfkpgghnpeaaIwF
import Derived.Test.YtjohfkpgghnpeaaIwG
import Derived.Test.YtjohfkpgghnpeaaIwH
import Derived.Test.YtjohfkpgghnpeaaIwA
import Derived.Test.YtjohfkpgghnpeaaIwI
import Derived.Test.YtjohfkpgghnpeaaIwJ
import Derived.Test.YtjohfkpgghnpeaaIwK
import Derived.Test.YtjohfkpgghnpeaaIwL
import Derived.Test.YtjohfkpgghnpeaaIwM
import Derived.Test.YtjohfkpgghnpeaaIwN
import Derived.Test.YtjohfkpgghnpeaaIwO
import Derived.Test.YtjohfkpgghnpeaaIwP
import Derived.Test.YtjohfkpgghnpeaaIwQ
import Derived.Test.YtjohfkpgghnpeaaIwR
import Derived.Test.YtjohfkpgghnpeaaIwS
import Derived.Test.YtjohfkpgghnpeaaIwT
import Derived.Test.YtjohfkpgghnpeaaIwU
import Derived.Test.YtjohfkpgghnpeaaIwV
import Derived.Test.YtjohfkpgghnpeaaIwW
section
namespace Go.Proofs.Ytjohfkpgghnpeaa.SetC
open Go Go.RowKit
open Go.Proofs.Ytjohfkpgghnpeaa.Gen
open Go.Proofs.Ytjohfkpgghnpeaa.Own
open Go.Proofs.Ytjohfkpgghnpeaa.RowK
open Go.Proofs.Ytjohfkpgghnpeaa.ItemC
open Go.Proofs.Ytjohfkpgghnpeaa.PRef
open Go.Proofs.Ytjohfkpgghnpeaa.ItmPr (ofL rd_at same_eq of_eq near_eq nearL near_length near_dom ofL_ok ofL_mem)
open Go.Proofs.YtjohfkpgghnpeaaW.PrintWords (Kd)
set_option linter.unusedVariables false
theorem sameB_refl (x : It) : sameB x x = true := by simp [sameB]
theorem unlike_self (l : List H) (h : ofL [] (l ++ l) = ofL [] l) : unlikeL l l = [] := by
  unfold unlikeL
  have : (ofL [] (l ++ l)).filter (unlikeP (ofL [] l) (ofL [] l)) = [] := by
    rw [List.filter_eq_nil_iff]
    intro x _
    simp [unlikeP, sameB_refl]
  rw [this]
  rfl
def aw43 : List H := [⟨3, ⟨5, ⟨#[]⟩⟩⟩]
theorem aw43_sz : ∀ x ∈ aw43, x.f1.f1.size ≤ 140737488355328 := by
  intro x hx
  obtain rfl := List.mem_singleton.1 hx
  decide
theorem nil_sz : ∀ x ∈ ([] : List H), x.f1.f1.size ≤ 140737488355328 := fun x hx => by cases hx
theorem rd_nil (w : World) : Rd w none 0 [] := ⟨fun _ => ⟨rfl, rfl⟩, fun ad e => by cases e⟩
theorem rd_one (w : World) (x : H) : Rd (w.alloc (.cells (hc x).toArray 30)) (some ⟨w.heap.size, 0, none⟩) 1 [x] := by
  refine ⟨fun e => (by cases e), fun ad e j u hu => ?_⟩
  rw [one_flat] at hu
  exact one_cells w x ad e j u hu
set_option maxRecDepth 20000 in
set_option maxHeartbeats 4000000 in
theorem scawake_calls (W : World) : Calls Try.prog 39 #[] W fun e w' => e = .returned (.bool true) ∧ Below W.heap.size W w' := by
  have hl1 : (unlikeL aw43 []).length = 1 := by rfl
  have hl2 : (lacksL aw43 []).length = 1 := by rfl
  have hl3 : (unlikeL aw43 aw43).length = 0 := by rw [unlike_self aw43 rfl]; rfl
  have bA : Below W.heap.size W (W.alloc (.cells #[.int .i64 3, .int .u64 5, .string ⟨#[]⟩] 30)) := (Below.refl _ _).alloc (Nat.le_refl _) _
  have hrd : Rd (W.alloc (.cells #[.int .i64 3, .int .u64 5, .string ⟨#[]⟩] 30)) (some ⟨W.heap.size, 0, none⟩) 1 aw43 := rd_one W ⟨3, ⟨5, ⟨#[]⟩⟩⟩
  have hu1 := unlike_calls _ _ 1 aw43 none 0 [] (by decide) aw43_sz nil_sz hrd (rd_nil _)
  have hu2 := fun w (h : Rd w (some ⟨W.heap.size, 0, none⟩) 1 aw43) => lacks_calls w _ 1 aw43 none 0 [] (by decide) (by decide) aw43_sz nil_sz h (rd_nil _)
  have hu3 := fun w (h : Rd w (some ⟨W.heap.size, 0, none⟩) 1 aw43) => unlike_calls w _ 1 aw43 _ 1 aw43 (by decide) aw43_sz aw43_sz h h
  unfold UPost at hu1 hu3
  unfold RowPost at hu2
  rw [hl1] at hu1
  simp only [hl2] at hu2
  simp only [hl3] at hu3
  have HU1 := Lib.hid hu1
  have HU2 := Lib.hid hu2
  have HU3 := Lib.hid hu3
  have HRD := Lib.hid hrd
  clear hu1 hu2 hu3 hl1 hl2 hl3 hrd
  go_enter Try.func39, Try.ntmps39
  go_wp2_with fail
  refine HU1.out.mono ?_; rintro e w1 ⟨A1, c1, rfl, _, _, b1⟩
  have hb1 := bA.trans (b1.mono bA.size)
  have HR1 := Lib.hid (HRD.out.b b1)
  clear bA b1
  go_wp2_with fail
  refine (HU2.out w1 HR1.out).mono ?_; rintro e w2 ⟨A2, c2, rfl, _, _, b2⟩
  have hb2 := hb1.trans (b2.mono hb1.size)
  have HR2 := Lib.hid (HR1.out.b b2)
  clear hb1 b2
  go_wp2_with fail
  refine (HU3.out w2 HR2.out).mono ?_; rintro e w3 ⟨A3, c3, rfl, _, _, b3⟩
  have hb3 := hb2.trans (b3.mono hb2.size)
  clear hb2 b3
  go_wp2_with fail
  go_ret
  exact ⟨rfl, hb3⟩
end Go.Proofs.Ytjohfkpgghnpeaa.SetC
namespace Go.Proofs.Ytjohfkpgghnpeaa.scrubUsed
open Go Go.RowKit
open Go.Proofs.Ytjohfkpgghnpeaa.Open
open Go.Proofs.Ytjohfkpgghnpeaa.ItmPr
set_option linter.unusedVariables false
end Go.Proofs.Ytjohfkpgghnpeaa.scrubUsed
end
