/- Contracts of layer 17 (vote): votes with one's yes, how many, whether most; who may say yes. -/
import Derived.Test.YtgainlmekgcfnaaProg
import Derived.Test.YtgainlmekgcfnaaGen
import Derived.WalkSpells
import Derived.Deep.RegionHeld3
import Derived.Deep.QuietTactic
import Derived.BigQuiet
namespace Go.Proofs.Ytgainlmekgcfnaa.Vote
open Go Go.RowKit
open Go.Proofs.Ytgainlmekgcfnaa.Gen
set_option linter.unusedVariables false

theorem none_any (w : World) : Calls Try.prog 12 #[] w fun e w' => e = .returned (.agg #[.bool false, .bool false, .bool false]) ∧ Below w.heap.size w w' := by
  go_enter Try.func12, Try.ntmps12
  go_wp2
  exact bodyPost_ret (v := .agg #[.bool false, .bool false, .bool false]) (by simp [results, Try.results12, go_sem]) rfl ⟨rfl, (Below.refl _ _).alloc (Nat.le_refl _) _⟩
set_option maxHeartbeats 1000000 in
theorem with0 (a b c : Bool) (w : World) : Calls Try.prog 13 #[.agg #[.bool a, .bool b, .bool c], .int .i64 0] w fun e w' => e = .returned (.agg #[.bool true, .bool b, .bool c]) ∧ Below w.heap.size w w' := by
  go_enter Try.func13, Try.ntmps13
  go_wp2
  exact bodyPost_ret (v := .agg #[.bool true, .bool b, .bool c]) (by simp [results, Try.results13, go_sem]) rfl ⟨rfl, ((Below.refl _ _).alloc (Nat.le_refl _) _).alloc (by simp) _⟩
set_option maxHeartbeats 1000000 in
theorem with1 (a b c : Bool) (w : World) : Calls Try.prog 13 #[.agg #[.bool a, .bool b, .bool c], .int .i64 1] w fun e w' => e = .returned (.agg #[.bool a, .bool true, .bool c]) ∧ Below w.heap.size w w' := by
  go_enter Try.func13, Try.ntmps13
  go_wp2
  exact bodyPost_ret (v := .agg #[.bool a, .bool true, .bool c]) (by simp [results, Try.results13, go_sem]) rfl ⟨rfl, ((Below.refl _ _).alloc (Nat.le_refl _) _).alloc (by simp) _⟩
set_option maxHeartbeats 1000000 in
theorem with2 (a b c : Bool) (w : World) : Calls Try.prog 13 #[.agg #[.bool a, .bool b, .bool c], .int .i64 2] w fun e w' => e = .returned (.agg #[.bool a, .bool b, .bool true]) ∧ Below w.heap.size w w' := by
  go_enter Try.func13, Try.ntmps13
  go_wp2
  exact bodyPost_ret (v := .agg #[.bool a, .bool b, .bool true]) (by simp [results, Try.results13, go_sem]) rfl ⟨rfl, ((Below.refl _ _).alloc (Nat.le_refl _) _).alloc (by simp) _⟩
set_option maxHeartbeats 1000000 in
theorem withLow (a b c : Bool) (n : Int) (h : n < 0) (w : World) : Calls Try.prog 13 #[.agg #[.bool a, .bool b, .bool c], .int .i64 n] w fun e w' => e = .returned (.agg #[.bool a, .bool b, .bool c]) ∧ Below w.heap.size w w' := by
  go_enter Try.func13, Try.ntmps13
  go_wp2
  exact bodyPost_ret (v := .agg #[.bool a, .bool b, .bool c]) (by simp [results, Try.results13, go_sem]) rfl ⟨rfl, ((Below.refl _ _).alloc (Nat.le_refl _) _).alloc (by simp) _⟩
set_option maxHeartbeats 1000000 in
theorem withHigh (a b c : Bool) (n : Int) (h : 2 < n) (w : World) : Calls Try.prog 13 #[.agg #[.bool a, .bool b, .bool c], .int .i64 n] w fun e w' => e = .returned (.agg #[.bool a, .bool b, .bool c]) ∧ Below w.heap.size w w' := by
  go_enter Try.func13, Try.ntmps13
  go_wp2
  exact bodyPost_ret (v := .agg #[.bool a, .bool b, .bool c]) (by simp [results, Try.results13, go_sem]) rfl ⟨rfl, ((Below.refl _ _).alloc (Nat.le_refl _) _).alloc (by simp) _⟩
/-- A voter's yes. -/
theorem with_any (a b c : Bool) (n : Int) (w : World) : Calls Try.prog 13 #[.agg #[.bool a, .bool b, .bool c], .int .i64 n] w fun e w' => e = .returned (.agg #[.bool (a || n == 0), .bool (b || n == 1), .bool (c || n == 2)]) ∧ Below w.heap.size w w' := by
  by_cases h0 : n = 0
  · subst h0; simpa using with0 a b c w
  by_cases h1 : n = 1
  · subst h1; simpa using with1 a b c w
  by_cases h2 : n = 2
  · subst h2; simpa using with2 a b c w
  have e0 : (n == 0) = false := by simp [h0]
  have e1 : (n == 1) = false := by simp [h1]
  have e2 : (n == 2) = false := by simp [h2]
  rw [e0, e1, e2]
  simp only [Bool.or_false]
  by_cases hl : n < 0
  · exact withLow a b c n hl w
  · exact withHigh a b c n (by omega) w
def count (a b c : Bool) : Int := (if a then 1 else 0) + (if b then 1 else 0) + (if c then 1 else 0)
set_option maxHeartbeats 1000000 in
theorem many000 (w : World) : Calls Try.prog 14 #[.agg #[.bool false, .bool false, .bool false]] w fun e w' => e = .returned (.int .i64 0) ∧ Below w.heap.size w w' := by
  have i0 : ∀ w, (Instr.index 23 (.agg #[.bool false, .bool false, .bool false]) (.int .i64 0)).run Try.prog w = .ok (.bool false) w := fun _ => by kernel_rfl
  have i1 : ∀ w, (Instr.index 23 (.agg #[.bool false, .bool false, .bool false]) (.int .i64 1)).run Try.prog w = .ok (.bool false) w := fun _ => by kernel_rfl
  have i2 : ∀ w, (Instr.index 23 (.agg #[.bool false, .bool false, .bool false]) (.int .i64 2)).run Try.prog w = .ok (.bool false) w := fun _ => by kernel_rfl
  go_enter Try.func14, Try.ntmps14
  go_wp2
  refine wp_loop_rounds 4 ?_
  rw [rounds_succ]; go_wp2
  rw [rounds_succ]; go_wp2
  rw [rounds_succ]; go_wp2
  rw [rounds_succ]; go_wp2
  go_ret
  exact ⟨rfl, (Below.refl _ _).alloc (Nat.le_refl _) _⟩
set_option maxHeartbeats 1000000 in
theorem many001 (w : World) : Calls Try.prog 14 #[.agg #[.bool false, .bool false, .bool true]] w fun e w' => e = .returned (.int .i64 1) ∧ Below w.heap.size w w' := by
  have i0 : ∀ w, (Instr.index 23 (.agg #[.bool false, .bool false, .bool true]) (.int .i64 0)).run Try.prog w = .ok (.bool false) w := fun _ => by kernel_rfl
  have i1 : ∀ w, (Instr.index 23 (.agg #[.bool false, .bool false, .bool true]) (.int .i64 1)).run Try.prog w = .ok (.bool false) w := fun _ => by kernel_rfl
  have i2 : ∀ w, (Instr.index 23 (.agg #[.bool false, .bool false, .bool true]) (.int .i64 2)).run Try.prog w = .ok (.bool true) w := fun _ => by kernel_rfl
  go_enter Try.func14, Try.ntmps14
  go_wp2
  refine wp_loop_rounds 4 ?_
  rw [rounds_succ]; go_wp2
  rw [rounds_succ]; go_wp2
  rw [rounds_succ]; go_wp2
  rw [rounds_succ]; go_wp2
  go_ret
  exact ⟨rfl, (Below.refl _ _).alloc (Nat.le_refl _) _⟩
set_option maxHeartbeats 1000000 in
theorem many010 (w : World) : Calls Try.prog 14 #[.agg #[.bool false, .bool true, .bool false]] w fun e w' => e = .returned (.int .i64 1) ∧ Below w.heap.size w w' := by
  have i0 : ∀ w, (Instr.index 23 (.agg #[.bool false, .bool true, .bool false]) (.int .i64 0)).run Try.prog w = .ok (.bool false) w := fun _ => by kernel_rfl
  have i1 : ∀ w, (Instr.index 23 (.agg #[.bool false, .bool true, .bool false]) (.int .i64 1)).run Try.prog w = .ok (.bool true) w := fun _ => by kernel_rfl
  have i2 : ∀ w, (Instr.index 23 (.agg #[.bool false, .bool true, .bool false]) (.int .i64 2)).run Try.prog w = .ok (.bool false) w := fun _ => by kernel_rfl
  go_enter Try.func14, Try.ntmps14
  go_wp2
  refine wp_loop_rounds 4 ?_
  rw [rounds_succ]; go_wp2
  rw [rounds_succ]; go_wp2
  rw [rounds_succ]; go_wp2
  rw [rounds_succ]; go_wp2
  go_ret
  exact ⟨rfl, (Below.refl _ _).alloc (Nat.le_refl _) _⟩
set_option maxHeartbeats 1000000 in
theorem many011 (w : World) : Calls Try.prog 14 #[.agg #[.bool false, .bool true, .bool true]] w fun e w' => e = .returned (.int .i64 2) ∧ Below w.heap.size w w' := by
  have i0 : ∀ w, (Instr.index 23 (.agg #[.bool false, .bool true, .bool true]) (.int .i64 0)).run Try.prog w = .ok (.bool false) w := fun _ => by kernel_rfl
  have i1 : ∀ w, (Instr.index 23 (.agg #[.bool false, .bool true, .bool true]) (.int .i64 1)).run Try.prog w = .ok (.bool true) w := fun _ => by kernel_rfl
  have i2 : ∀ w, (Instr.index 23 (.agg #[.bool false, .bool true, .bool true]) (.int .i64 2)).run Try.prog w = .ok (.bool true) w := fun _ => by kernel_rfl
  go_enter Try.func14, Try.ntmps14
  go_wp2
  refine wp_loop_rounds 4 ?_
  rw [rounds_succ]; go_wp2
  rw [rounds_succ]; go_wp2
  rw [rounds_succ]; go_wp2
  rw [rounds_succ]; go_wp2
  go_ret
  exact ⟨rfl, (Below.refl _ _).alloc (Nat.le_refl _) _⟩
set_option maxHeartbeats 1000000 in
theorem many100 (w : World) : Calls Try.prog 14 #[.agg #[.bool true, .bool false, .bool false]] w fun e w' => e = .returned (.int .i64 1) ∧ Below w.heap.size w w' := by
  have i0 : ∀ w, (Instr.index 23 (.agg #[.bool true, .bool false, .bool false]) (.int .i64 0)).run Try.prog w = .ok (.bool true) w := fun _ => by kernel_rfl
  have i1 : ∀ w, (Instr.index 23 (.agg #[.bool true, .bool false, .bool false]) (.int .i64 1)).run Try.prog w = .ok (.bool false) w := fun _ => by kernel_rfl
  have i2 : ∀ w, (Instr.index 23 (.agg #[.bool true, .bool false, .bool false]) (.int .i64 2)).run Try.prog w = .ok (.bool false) w := fun _ => by kernel_rfl
  go_enter Try.func14, Try.ntmps14
  go_wp2
  refine wp_loop_rounds 4 ?_
  rw [rounds_succ]; go_wp2
  rw [rounds_succ]; go_wp2
  rw [rounds_succ]; go_wp2
  rw [rounds_succ]; go_wp2
  go_ret
  exact ⟨rfl, (Below.refl _ _).alloc (Nat.le_refl _) _⟩
set_option maxHeartbeats 1000000 in
theorem many101 (w : World) : Calls Try.prog 14 #[.agg #[.bool true, .bool false, .bool true]] w fun e w' => e = .returned (.int .i64 2) ∧ Below w.heap.size w w' := by
  have i0 : ∀ w, (Instr.index 23 (.agg #[.bool true, .bool false, .bool true]) (.int .i64 0)).run Try.prog w = .ok (.bool true) w := fun _ => by kernel_rfl
  have i1 : ∀ w, (Instr.index 23 (.agg #[.bool true, .bool false, .bool true]) (.int .i64 1)).run Try.prog w = .ok (.bool false) w := fun _ => by kernel_rfl
  have i2 : ∀ w, (Instr.index 23 (.agg #[.bool true, .bool false, .bool true]) (.int .i64 2)).run Try.prog w = .ok (.bool true) w := fun _ => by kernel_rfl
  go_enter Try.func14, Try.ntmps14
  go_wp2
  refine wp_loop_rounds 4 ?_
  rw [rounds_succ]; go_wp2
  rw [rounds_succ]; go_wp2
  rw [rounds_succ]; go_wp2
  rw [rounds_succ]; go_wp2
  go_ret
  exact ⟨rfl, (Below.refl _ _).alloc (Nat.le_refl _) _⟩
set_option maxHeartbeats 1000000 in
theorem many110 (w : World) : Calls Try.prog 14 #[.agg #[.bool true, .bool true, .bool false]] w fun e w' => e = .returned (.int .i64 2) ∧ Below w.heap.size w w' := by
  have i0 : ∀ w, (Instr.index 23 (.agg #[.bool true, .bool true, .bool false]) (.int .i64 0)).run Try.prog w = .ok (.bool true) w := fun _ => by kernel_rfl
  have i1 : ∀ w, (Instr.index 23 (.agg #[.bool true, .bool true, .bool false]) (.int .i64 1)).run Try.prog w = .ok (.bool true) w := fun _ => by kernel_rfl
  have i2 : ∀ w, (Instr.index 23 (.agg #[.bool true, .bool true, .bool false]) (.int .i64 2)).run Try.prog w = .ok (.bool false) w := fun _ => by kernel_rfl
  go_enter Try.func14, Try.ntmps14
  go_wp2
  refine wp_loop_rounds 4 ?_
  rw [rounds_succ]; go_wp2
  rw [rounds_succ]; go_wp2
  rw [rounds_succ]; go_wp2
  rw [rounds_succ]; go_wp2
  go_ret
  exact ⟨rfl, (Below.refl _ _).alloc (Nat.le_refl _) _⟩
set_option maxHeartbeats 1000000 in
theorem many111 (w : World) : Calls Try.prog 14 #[.agg #[.bool true, .bool true, .bool true]] w fun e w' => e = .returned (.int .i64 3) ∧ Below w.heap.size w w' := by
  have i0 : ∀ w, (Instr.index 23 (.agg #[.bool true, .bool true, .bool true]) (.int .i64 0)).run Try.prog w = .ok (.bool true) w := fun _ => by kernel_rfl
  have i1 : ∀ w, (Instr.index 23 (.agg #[.bool true, .bool true, .bool true]) (.int .i64 1)).run Try.prog w = .ok (.bool true) w := fun _ => by kernel_rfl
  have i2 : ∀ w, (Instr.index 23 (.agg #[.bool true, .bool true, .bool true]) (.int .i64 2)).run Try.prog w = .ok (.bool true) w := fun _ => by kernel_rfl
  go_enter Try.func14, Try.ntmps14
  go_wp2
  refine wp_loop_rounds 4 ?_
  rw [rounds_succ]; go_wp2
  rw [rounds_succ]; go_wp2
  rw [rounds_succ]; go_wp2
  rw [rounds_succ]; go_wp2
  go_ret
  exact ⟨rfl, (Below.refl _ _).alloc (Nat.le_refl _) _⟩
theorem many_any (a b c : Bool) (w : World) : Calls Try.prog 14 #[.agg #[.bool a, .bool b, .bool c]] w fun e w' => e = .returned (.int .i64 (count a b c)) ∧ Below w.heap.size w w' := by
  cases a <;> cases b <;> cases c
  · exact many000 w
  · exact many001 w
  · exact many010 w
  · exact many011 w
  · exact many100 w
  · exact many101 w
  · exact many110 w
  · exact many111 w
theorem count_range (a b c : Bool) : 0 ≤ count a b c ∧ count a b c ≤ 3 := by cases a <;> cases b <;> cases c <;> decide
theorem won_any (a b c : Bool) (w : World) : Calls Try.prog 15 #[.agg #[.bool a, .bool b, .bool c]] w fun e w' => e = .returned (.bool (decide (1 < count a b c))) ∧ Below w.heap.size w w' := by
  have hc := count_range a b c
  have hm := fun w => many_any a b c w
  generalize count a b c = n at hc hm ⊢
  have HM := Lib.hid hm
  clear hm
  go_enter Try.func15, Try.ntmps15
  go_wp2_with fail
  refine (HM.out _).mono ?_; rintro e w1 ⟨rfl, hb⟩
  go_wp2_with fail
  go_ret
  exact ⟨rfl, thenB ((Below.refl _ _).alloc (Nat.le_refl _) _) hb⟩
theorem ret_bool {a b : Bool} (h : a = b) : Ending.returned (.bool a) = .returned (.bool b) := by rw [h]
def mayB (term voted asked who : Int) (newer : Bool) : Bool := decide (0 ≤ who ∧ who < 3 ∧ term ≤ asked) && newer && (decide (term < asked) || decide (voted < 0) || (voted == who))
set_option maxHeartbeats 2000000 in
theorem may_any (term voted asked who : Int) (newer : Bool) (w : World) : Calls Try.prog 17 #[.int .i64 term, .int .i64 voted, .int .i64 asked, .int .i64 who, .bool newer] w fun e w' => e = .returned (.bool (mayB term voted asked who newer)) ∧ w = w' := by
  go_enter Try.func17, Try.ntmps17
  cases newer
  all_goals go_wp2
  all_goals go_ret
  all_goals refine ⟨ret_bool ?_, rfl⟩
  all_goals simp only [mayB, Bool.and_false, Bool.false_and, Bool.and_true]
  all_goals simp
  all_goals omega
end Go.Proofs.Ytgainlmekgcfnaa.Vote
