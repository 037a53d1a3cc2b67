/- No source at all, and 'awake': layer 1. -/
import Derived.Test.YtjkjcpbhlgjgcaaNumC3
namespace Go.Proofs.Ytjkjcpbhlgjgcaa.NumC
open Go Go.RowKit
open Go.Proofs.Ytjkjcpbhlgjgcaa.Gen
open Go.Proofs.Ytjkjcpbhlgjgcaa.Num
set_option linter.unusedVariables false
theorem wrong_nil (w : World) (e : Int) : Calls Try.prog 8 #[.pointer none, .int .i64 e] w fun x w' => x = .returned (.tuple #[]) ∧ Below w.heap.size w w' := by
  go_enter Try.func8, Try.ntmps8
  go_wp2_with fail
  (first | refine bodyPost_end (results_none rfl _ _ _) rfl ?_ | refine bodyPost_ret (results_none rfl _ _ _) rfl ?_)
  exact ⟨rfl, Below.refl _ _⟩
theorem err_nil (w : World) : Calls Try.prog 10 #[.pointer none] w fun x w' => x = .returned (.int .i64 2) ∧ Below w.heap.size w w' := by
  go_enter Try.func10, Try.ntmps10
  go_wp2_with fail
  go_ret
  exact ⟨rfl, Below.refl _ _⟩
theorem left_nil (w : World) : Calls Try.prog 11 #[.pointer none] w fun x w' => x = .returned (.int .i64 0) ∧ Below w.heap.size w w' := by
  go_enter Try.func11, Try.ntmps11
  go_wp2_with fail
  go_ret
  exact ⟨rfl, Below.refl _ _⟩
theorem take_nil (w : World) (n : Int) : Calls Try.prog 12 #[.pointer none, .int .i64 n] w fun x w' => x = .returned (.string ⟨#[]⟩) ∧ Below w.heap.size w w' := by
  go_enter Try.func12, Try.ntmps12
  go_wp2_with fail
  refine (wrong_nil _ _).mono ?_; rintro e w1 ⟨rfl, hb⟩
  go_wp2_with fail
  go_ret
  exact ⟨rfl, hb⟩
theorem num_nil (w : World) (n : Int) : Calls Try.prog 13 #[.pointer none, .int .u64 n] w fun x w' => x = .returned (.int .u64 0) ∧ Below w.heap.size w w' := by
  go_enter Try.func13, Try.ntmps13
  go_wp2_with fail
  refine (take_nil _ _).mono ?_; rintro e w1 ⟨rfl, hb⟩
  go_wp2_with fail
  go_ret
  exact ⟨rfl, hb⟩
theorem int_nil (w : World) (n : Int) : Calls Try.prog 14 #[.pointer none, .int .i64 n] w fun x w' => x = .returned (.int .i64 0) ∧ Below w.heap.size w w' := by
  go_enter Try.func14, Try.ntmps14
  go_wp2_with fail
  refine (num_nil _ _).mono ?_; rintro e w1 ⟨rfl, hb⟩
  go_wp2_with fail
  go_ret
  exact ⟨rfl, hb⟩
theorem word_nil (w : World) : Calls Try.prog 15 #[.pointer none] w fun x w' => x = .returned (.int .u32 0) ∧ Below w.heap.size w w' := by
  go_enter Try.func15, Try.ntmps15
  go_wp2_with fail
  refine (take_nil _ _).mono ?_; rintro e w1 ⟨rfl, hb⟩
  go_wp2_with fail
  refine (big_any [] (by simp) _).mono ?_; rintro e w2 ⟨rfl, hb2⟩
  have hz0 : value ([] : List UInt8) = 0 := rfl
  go_wp2_with fail
  go_ret
  exact ⟨rfl, thenB hb hb2⟩
theorem text_nil (w : World) (n : Int) : Calls Try.prog 16 #[.pointer none, .int .i64 n] w fun x w' => x = .returned (.string ⟨#[]⟩) ∧ Below w.heap.size w w' := by
  go_enter Try.func16, Try.ntmps16
  go_wp2_with fail
  refine (int_nil _ _).mono ?_; rintro e w1 ⟨rfl, hb⟩
  go_wp2_with fail
  refine (take_nil _ _).mono ?_; rintro e w2 ⟨rfl, hb2⟩
  go_wp2_with fail
  go_ret
  exact ⟨rfl, thenB hb hb2⟩
theorem bool_nil (w : World) : Calls Try.prog 17 #[.pointer none] w fun x w' => x = .returned (.bool false) ∧ Below w.heap.size w w' := by
  go_enter Try.func17, Try.ntmps17
  go_wp2_with fail
  refine (take_nil _ _).mono ?_; rintro e w1 ⟨rfl, hb⟩
  go_wp2_with fail
  refine (wrong_nil _ _).mono ?_; rintro e w2 ⟨rfl, hb2⟩
  go_wp2_with fail
  go_ret
  exact ⟨rfl, thenB hb hb2⟩
theorem list_nil (w : World) (n m : Int) : Calls Try.prog 18 #[.pointer none, .int .i64 n, .int .i64 m] w fun x w' => x = .returned (.slice none 0 0) ∧ Below w.heap.size w w' := by
  go_enter Try.func18, Try.ntmps18
  go_wp2_with fail
  refine (int_nil _ _).mono ?_; rintro e w1 ⟨rfl, hb⟩
  go_wp2_with fail
  refine wp_loop_rounds 1 ?_
  rw [rounds_succ]
  go_wp2_with fail
  refine (err_nil _).mono ?_; rintro e w2 ⟨rfl, hb2⟩
  go_wp2_with fail
  go_ret
  exact ⟨rfl, thenB hb hb2⟩
theorem end_nil (w : World) : Calls Try.prog 19 #[.pointer none] w fun x w' => x = .returned (.int .i64 2) ∧ Below w.heap.size w w' := by
  go_enter Try.func19, Try.ntmps19
  go_wp2_with fail
  refine (left_nil _).mono ?_; rintro e w1 ⟨rfl, hb⟩
  go_wp2_with fail
  refine (err_nil _).mono ?_; rintro e w2 ⟨rfl, hb2⟩
  go_wp2_with fail
  go_ret
  exact ⟨rfl, thenB hb hb2⟩
/-- A source of the call's own: kept by what turns that source alone. -/
theorem ownB {w w1 w2 : World} {b : Nat} (h : Below w.heap.size w w1) (k : w1.grownBy w2 (some b)) (hb : w.heap.size ≤ b) : Below w.heap.size w w2 :=
  h.grown k h.size (fun k e => by injection e with e; omega)
set_option maxHeartbeats 2000000 in
theorem awake_any (w : World) : Calls Try.prog 9 #[] w fun x w' => x = .returned (.bool true) ∧ Below w.heap.size w w' := by
  have e0 : (⟨(put 300).toArray⟩ : ByteArray) = ⟨#[2, 1, 44]⟩ := by decide
  have e1 : (⟨(text [97, 98]).toArray⟩ : ByteArray) = ⟨#[1, 2, 97, 98]⟩ := by decide
  go_enter Try.func9, Try.ntmps9
  go_wp2_with fail
  refine (put_any 300 (by omega) _).mono ?_; rintro e w1 ⟨rfl, hb1⟩
  go_wp2_with fail
  refine (text_any ⟨#[97, 98]⟩ (by show 2 ≤ _; omega) _).mono ?_; rintro e w2 ⟨rfl, hb2⟩
  have hb2 := thenB hb1 hb2
  have e2 : (⟨#[2, 1, 44]⟩ : ByteArray) ++ ⟨#[1, 2, 97, 98]⟩ = ⟨[2, 1, 44, 1, 2, 97, 98].toArray⟩ := by decide
  go_wp2_with fail
  refine (from_any _ [2, 1, 44, 1, 2, 97, 98] (by simp)).mono ?_; rintro e w3 ⟨rfl, hs3, hb3⟩
  have hb3 := thenB hb2 hb3
  have hle := hb2.size
  clear e2 hb1
  generalize w2.heap.size = b at hs3 hle
  clear hb2
  go_wp2_with fail
  refine (put_any 300 (by omega) _).mono ?_; rintro e w4 ⟨rfl, hb4⟩
  have hs4 := hs3.below hb4
  have hb4 := thenB hb3 hb4
  clear hs3 hb3
  go_wp2_with fail
  refine (num_any _ _ _ _ 300 (by omega) hs4).mono ?_; rintro e w5 ⟨rfl, hs5, hg5⟩
  have hb5 := ownB hb4 hg5 hle
  clear hs4 hb4 hg5
  have e5 : R.num ⟨[2, 1, 44, 1, 2, 97, 98], 0⟩ 300 = (⟨[1, 2, 97, 98], 0⟩, 300) := rfl
  rw [e5] at hs5
  dsimp only at hs5
  go_wp2_with fail
  refine (srctext_any _ _ _ _ 2 (by omega) (by omega) hs5).mono ?_; rintro e w6 ⟨rfl, hs6, hg6⟩
  have hb6 := ownB hb5 hg6 hle
  clear hs5 hb5 hg6
  have e6 : R.text ⟨[1, 2, 97, 98], 0⟩ 2 = (⟨[], 0⟩, [97, 98]) := rfl
  rw [e6] at hs6
  dsimp only at hs6
  go_wp2_with fail
  refine (end_any _ _ _ _ hs6).mono ?_; rintro e w7 ⟨rfl, hs7, hg7⟩
  have hb7 := ownB hb6 hg7 hle
  have e7 : R.endE ⟨[], 0⟩ = 0 := rfl
  go_wp2_with fail
  go_ret
  exact ⟨rfl, hb7⟩
end Go.Proofs.Ytjkjcpbhlgjgcaa.NumC
