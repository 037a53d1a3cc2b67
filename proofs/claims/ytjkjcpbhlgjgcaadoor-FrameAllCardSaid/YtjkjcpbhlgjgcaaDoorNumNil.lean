/- No source at all: layer 1. -/
import Derived.Test.YtjkjcpbhlgjgcaaDoorNumC3
namespace Go.Proofs.YtjkjcpbhlgjgcaaDoor.NumC
open Go Go.RowKit
open Go.Proofs.YtjkjcpbhlgjgcaaDoor.Gen
open Go.Proofs.YtjkjcpbhlgjgcaaDoor.Num
set_option linter.unusedVariables false
theorem wrong_nil (w : World) (e : Int) : Calls Tryd.prog 55 #[.pointer none, .int .i64 e] w fun x w' => x = .returned (.tuple #[]) ∧ Below w.heap.size w w' := by
  go_enter Tryd.func55, Tryd.ntmps55
  go_wp2_with fail
  (first | refine bodyPost_end (results_none rfl _ _ _) rfl ?_ | refine bodyPost_ret (results_none rfl _ _ _) rfl ?_)
  exact ⟨rfl, Below.refl _ _⟩
theorem err_nil (w : World) : Calls Tryd.prog 38 #[.pointer none] w fun x w' => x = .returned (.int .i64 2) ∧ Below w.heap.size w w' := by
  go_enter Tryd.func38, Tryd.ntmps38
  go_wp2_with fail
  go_ret
  exact ⟨rfl, Below.refl _ _⟩
theorem left_nil (w : World) : Calls Tryd.prog 37 #[.pointer none] w fun x w' => x = .returned (.int .i64 0) ∧ Below w.heap.size w w' := by
  go_enter Tryd.func37, Tryd.ntmps37
  go_wp2_with fail
  go_ret
  exact ⟨rfl, Below.refl _ _⟩
theorem take_nil (w : World) (n : Int) : Calls Tryd.prog 69 #[.pointer none, .int .i64 n] w fun x w' => x = .returned (.string ⟨#[]⟩) ∧ Below w.heap.size w w' := by
  go_enter Tryd.func69, Tryd.ntmps69
  go_wp2_with fail
  refine (wrong_nil _ _).mono ?_; rintro e w1 ⟨rfl, hb⟩
  go_wp2_with fail
  go_ret
  exact ⟨rfl, hb⟩
theorem num_nil (w : World) (n : Int) : Calls Tryd.prog 74 #[.pointer none, .int .u64 n] w fun x w' => x = .returned (.int .u64 0) ∧ Below w.heap.size w w' := by
  go_enter Tryd.func74, Tryd.ntmps74
  go_wp2_with fail
  refine (take_nil _ _).mono ?_; rintro e w1 ⟨rfl, hb⟩
  go_wp2_with fail
  go_ret
  exact ⟨rfl, hb⟩
theorem int_nil (w : World) (n : Int) : Calls Tryd.prog 70 #[.pointer none, .int .i64 n] w fun x w' => x = .returned (.int .i64 0) ∧ Below w.heap.size w w' := by
  go_enter Tryd.func70, Tryd.ntmps70
  go_wp2_with fail
  refine (num_nil _ _).mono ?_; rintro e w1 ⟨rfl, hb⟩
  go_wp2_with fail
  go_ret
  exact ⟨rfl, hb⟩
theorem word_nil (w : World) : Calls Tryd.prog 54 #[.pointer none] w fun x w' => x = .returned (.int .u32 0) ∧ Below w.heap.size w w' := by
  go_enter Tryd.func54, Tryd.ntmps54
  go_wp2_with fail
  refine (take_nil _ _).mono ?_; rintro e w1 ⟨rfl, hb⟩
  go_wp2_with fail
  refine (big_any [] (by simp) _).mono ?_; rintro e w2 ⟨rfl, hb2⟩
  have hz0 : value ([] : List UInt8) = 0 := rfl
  go_wp2_with fail
  go_ret
  exact ⟨rfl, thenB hb hb2⟩
theorem text_nil (w : World) (n : Int) : Calls Tryd.prog 53 #[.pointer none, .int .i64 n] w fun x w' => x = .returned (.string ⟨#[]⟩) ∧ Below w.heap.size w w' := by
  go_enter Tryd.func53, Tryd.ntmps53
  go_wp2_with fail
  refine (int_nil _ _).mono ?_; rintro e w1 ⟨rfl, hb⟩
  go_wp2_with fail
  refine (take_nil _ _).mono ?_; rintro e w2 ⟨rfl, hb2⟩
  go_wp2_with fail
  go_ret
  exact ⟨rfl, thenB hb hb2⟩
theorem bool_nil (w : World) : Calls Tryd.prog 64 #[.pointer none] w fun x w' => x = .returned (.bool false) ∧ Below w.heap.size w w' := by
  go_enter Tryd.func64, Tryd.ntmps64
  go_wp2_with fail
  refine (take_nil _ _).mono ?_; rintro e w1 ⟨rfl, hb⟩
  go_wp2_with fail
  refine (wrong_nil _ _).mono ?_; rintro e w2 ⟨rfl, hb2⟩
  go_wp2_with fail
  go_ret
  exact ⟨rfl, thenB hb hb2⟩
theorem list_nil (w : World) (n m : Int) : Calls Tryd.prog 63 #[.pointer none, .int .i64 n, .int .i64 m] w fun x w' => x = .returned (.slice none 0 0) ∧ Below w.heap.size w w' := by
  go_enter Tryd.func63, Tryd.ntmps63
  go_wp2_with fail
  refine (int_nil _ _).mono ?_; rintro e w1 ⟨rfl, hb⟩
  go_wp2_with fail
  refine wp_loop_rounds 1 ?_
  rw [rounds_succ]
  go_wp2_with fail
  refine (err_nil _).mono ?_; rintro e w2 ⟨rfl, hb2⟩
  go_wp2_with fail
  go_ret
  exact ⟨rfl, thenB hb hb2⟩
theorem end_nil (w : World) : Calls Tryd.prog 30 #[.pointer none] w fun x w' => x = .returned (.int .i64 2) ∧ Below w.heap.size w w' := by
  go_enter Tryd.func30, Tryd.ntmps30
  go_wp2_with fail
  refine (left_nil _).mono ?_; rintro e w1 ⟨rfl, hb⟩
  go_wp2_with fail
  refine (err_nil _).mono ?_; rintro e w2 ⟨rfl, hb2⟩
  go_wp2_with fail
  go_ret
  exact ⟨rfl, thenB hb hb2⟩
/-- A source of the call's own: kept by what turns that source alone. -/
theorem ownB {w w1 w2 : World} {b : Nat} (h : Below w.heap.size w w1) (k : w1.grownBy w2 (some b)) (hb : w.heap.size ≤ b) : Below w.heap.size w w2 :=
  h.grown k h.size (fun k e => by injection e with e; omega)
end Go.Proofs.YtjkjcpbhlgjgcaaDoor.NumC
