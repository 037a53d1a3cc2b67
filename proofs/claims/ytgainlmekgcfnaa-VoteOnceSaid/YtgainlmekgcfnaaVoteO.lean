/- The walk of the law VoteOnce. -/
import Derived.Test.YtgainlmekgcfnaaVoteW
namespace Go.Proofs.Ytgainlmekgcfnaa.Vote
open Go Go.RowKit
open Go.Proofs.Ytgainlmekgcfnaa.Gen
set_option linter.unusedVariables false

theorem below2 (w : World) (o o' : Obj) : Below w.heap.size w ((w.alloc o).alloc o') := ((Below.refl _ _).alloc (Nat.le_refl _) o).alloc (by simp) o'
set_option maxHeartbeats 2000000 in
theorem once_walk (a p q t x y : Int) (n0 n1 : Bool) (W : World) (e0 : Go.bits .and .i64 a 15 = t) (e1 : Go.bits .and .i64 p 3 = x) (e2 : Go.bits .and .i64 q 3 = y) (hx : 0 ≤ x) (hy : 0 ≤ y) :
    Calls Try.prog 4 #[.int .i64 a, .agg #[.int .i64 p, .int .i64 q], .agg #[.bool n0, .bool n1]] W fun e w' => e = .returned (.bool true) ∧ Below W.heap.size W w' := by
  by_cases h3 : x < 3
  · cases n0
    · go_enter Try.func4, Try.ntmps4
      go_wp2_with fail
      go_quiet (fail)
      clear e0 e1 e2
      go_wp2_with fail
      refine (may_first _ _ _ hx _).mono ?_; rintro e w1 ⟨rfl, rfl⟩
      go_wp2_with fail
      refine (may_any _ _ _ _ _ _).mono ?_; rintro e w1 ⟨rfl, rfl⟩
      go_wp2_with fail
      refine (awake_any _).mono ?_; rintro e w1 ⟨rfl, b1⟩
      have c0 := cellB b1 (a := ⟨W.heap.size + 1, 0, none⟩) (v := .bool false) (by go_simp)
      go_wp2_with fail
      go_ret
      exact ⟨rfl, thenB (bN (below2 _ _ _) _) b1⟩
    · go_enter Try.func4, Try.ntmps4
      go_wp2_with fail
      go_quiet (fail)
      clear e0 e1 e2
      go_wp2_with fail
      refine (may_first _ _ _ hx _).mono ?_; rintro e w1 ⟨rfl, rfl⟩
      go_wp2_with fail
      refine (may_second _ _ _ _ hx hy _).mono ?_; rintro e w1 ⟨b, rfl, hb, rfl⟩
      go_wp2_with fail
      refine (awake_any _).mono ?_; rintro e w1 ⟨rfl, b1⟩
      have c0 := cellB b1 (a := ⟨W.heap.size + 1, 0, none⟩) (v := .bool true) (by go_simp)
      cases b
      · go_wp2_with fail
        go_ret
        exact ⟨rfl, thenB (bN (below2 _ _ _) _) b1⟩
      · have hb := hb rfl
        go_wp2_with fail
        go_ret
        exact ⟨rfl, thenB (bN (below2 _ _ _) _) b1⟩
  · go_enter Try.func4, Try.ntmps4
    go_wp2_with fail
    go_quiet (fail)
    clear e0 e1 e2
    go_wp2_with fail
    refine (may_first _ _ _ hx _).mono ?_; rintro e w1 ⟨rfl, rfl⟩
    go_wp2_with fail
    refine (may_any _ _ _ _ _ _).mono ?_; rintro e w1 ⟨rfl, rfl⟩
    go_wp2_with fail
    refine (awake_any _).mono ?_; rintro e w1 ⟨rfl, b1⟩
    have c0 := cellB b1 (a := ⟨W.heap.size + 1, 0, none⟩) (v := .bool n0) (by go_simp)
    go_wp2_with fail
    go_ret
    exact ⟨rfl, thenB (bN (below2 _ _ _) _) b1⟩
end Go.Proofs.Ytgainlmekgcfnaa.Vote
namespace Go.Proofs.Ytgainlmekgcfnaa.voteOnce
open Go Go.RowKit Go.Proofs.Ytgainlmekgcfnaa.Open Go.Proofs.Ytgainlmekgcfnaa.Vote
theorem walk {H : Type} {enc : TypeId × Value → H} {W : World} {b : Nat} (a : Int) (_w : (Lit.int .i64 a).wf = true) {v1 : Value} (ok1 : Value.okWide Try.prog W .any b 31 v1) {d1 : DataW H} {p1 : List MemPlace} (h1 : DataW.Trod enc Try.prog W 0 (fun _ => true) true 31 v1 d1 p1)
    {v2 : Value} (ok2 : Value.okWide Try.prog W .any b 32 v2) {d2 : DataW H} {p2 : List MemPlace} (h2 : DataW.Trod enc Try.prog W 0 (fun _ => true) true 32 v2 d2 p2) :
    Calls Try.prog 4 #[.int .i64 a, v1, v2] W fun e w' => e = .returned (.bool true) ∧ Below W.heap.size W w' := by
  obtain ⟨x, rfl, _⟩ := open_agg (.pair (.int .i64) (.int .i64)) (by kernel_rfl) (by kernel_rfl) ok1 h1
  obtain ⟨y, rfl, _⟩ := open_agg (.pair .bool .bool) (by kernel_rfl) (by kernel_rfl) ok2 h2
  exact once_walk a x.1 x.2 _ _ _ y.1 y.2 W (m4 _) (m2 _) (m2 _) (by omega) (by omega)
end Go.Proofs.Ytgainlmekgcfnaa.voteOnce
