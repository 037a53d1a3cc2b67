/- Layer 5's laws: awake; the walk of SuperPuts. -/
import Derived.Test.YtfacifhlcaghiaaSupE
import Derived.Test.YtfacifhlcaghiaaOpen
namespace Go.Proofs.Ytfacifhlcaghiaa.Sup
open Go Go.RowKit
open Go.Proofs.Ytfacifhlcaghiaa.Gen
open Go.Proofs.Ytfacifhlcaghiaa.Own
open Go.Proofs.Ytfacifhlcaghiaa.RowK
open Go.Proofs.Ytfacifhlcaghiaa.Num
open Go.Proofs.Ytfacifhlcaghiaa.NumC
open Go.Proofs.Ytfacifhlcaghiaa.Dsk
set_option linter.unusedVariables false
set_option linter.unusedSimpArgs false
theorem aw5_read : readS (List.replicate 4 blankL) [⟨2, putL 1 [97]⟩, ⟨1, putL 2 [98]⟩] 1 = (2, padW [98], true) := by decide +kernel
set_option maxRecDepth 20000 in
set_option maxHeartbeats 2000000 in
theorem awake5_any (W : World) : Calls Try.prog 32 #[] W fun e w' => e = .returned (.bool true) ∧ Below W.heap.size W w' := by
  have hnw := new_in W 4 (by omega) (by omega)
  rw [show ((4 : Nat) : Int) = 4 from rfl] at hnw
  unfold NewPost at hnw
  have HNW := Lib.hid hnw
  clear hnw
  have hpw := padW_len (t := [98]) (by decide)
  have hwd := fun w => word5_any [98] (by decide) w
  have haw := aw5_read
  generalize padW [98] = pw at hpw hwd haw
  have HWD := Lib.hid hwd
  have HAW := Lib.hid haw
  clear hwd haw
  go_enter Try.func32, Try.ntmps32
  go_wp2_with fail
  refine HNW.out.mono ?_; rintro e w1 ⟨h, rfl, d1, b1⟩
  have hw1 := swrite_in w1 W.heap.size h _ [] d1 (by simp) 1 1 (by omega) (by omega) [97] (by decide) (by decide)
  unfold DkPost ptr at hw1
  have HW1 := Lib.hid hw1
  unfold ptr
  clear hw1
  go_wp2_with fail
  refine HW1.out.mono ?_; rintro e w2 ⟨rfl, vA, vB, d2, k2, m2⟩
  have b2 := b1.trans (k2.below d1)
  have hw2 := swrite_in w2 W.heap.size _ _ _ d2 (by simp) 1 2 (by omega) (by omega) [98] (by decide) (by decide)
  unfold DkPost ptr at hw2
  have HW2 := Lib.hid hw2
  clear hw2 k2
  go_wp2_with fail
  refine HW2.out.mono ?_; rintro e w3 ⟨rfl, vA3, vB3, d3, k3, m3⟩
  have b3 := b2.trans (k3.below d2)
  have hrd := sread_any w3 W.heap.size (some _) _ _ d3 1 (by decide) (by decide)
  have e1 : ([] ++ [(⟨((1 : Nat) : Int) + ((1 : Nat) : Int) % 2, putL 1 [97]⟩ : Wr)] ++ [⟨((1 : Nat) : Int) + ((2 : Nat) : Int) % 2, putL 2 [98]⟩]) = [⟨2, putL 1 [97]⟩, ⟨1, putL 2 [98]⟩] := rfl
  rw [e1, HAW.out] at hrd
  unfold ptrO at hrd
  simp only [Option.map_some] at hrd
  have HRD := Lib.hid hrd
  clear hrd k3 e1
  go_wp2_with fail
  refine HRD.out.mono ?_; rintro e w4 ⟨rfl, b4⟩
  have hb4 := b3.trans (b4.mono b3.size)
  go_wp2_with fail
  refine (HWD.out _).mono ?_; rintro e w5 ⟨rfl, b5⟩
  have hb5 := hb4.trans (b5.mono hb4.size)
  go_wp2_with fail
  go_ret
  exact ⟨rfl, hb5⟩
/-- From a world behind w on. -/
theorem awake5_b (w : World) : ∀ w', Below w.heap.size w w' → Calls Try.prog 32 #[] w' fun e w'' => e = .returned (.bool true) ∧ Below w.heap.size w w'' := fun w' h => by
  refine (awake5_any w').mono ?_
  rintro e w'' ⟨rfl, b⟩
  exact ⟨rfl, thenB h b⟩
end Go.Proofs.Ytfacifhlcaghiaa.Sup
