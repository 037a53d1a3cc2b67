/- The walk of the law VerMay: for all three integers the law answers true and turns nothing that was there. -/
import Derived.Test.YtgainlmekgcfnaaVerLem
import Derived.Lib.Hide
namespace Go.Proofs.Ytgainlmekgcfnaa.verMay
open Go Go.RowKit Go.Proofs.Ytgainlmekgcfnaa.PVerOf Go.Proofs.Ytgainlmekgcfnaa.VerLem
set_option linter.unusedVariables false

theorem bn {w w1 : World} (h : Below w.heap.size w w1) (n : Nat) : Below w.heap.size w (w1.drewN n) := ⟨h.os, h.tape, h.output, h.size, h.block⟩
theorem drN (w : World) (n : Nat) : Below w.heap.size w (w.drewN n) := ⟨rfl, rfl, rfl, Nat.le_refl _, fun _ _ => rfl⟩
theorem awake_any (w : World) : Calls Try.prog 24 #[] w fun e w' => e = .returned (.bool true) ∧ Below w.heap.size w w' := tarnlaw10_awake.calls true w awake_yes
theorem may_t (e n : Int) (w : World) (h1 : 1 ≤ e) (h2 : e ≤ 1048576) (h3 : 1 ≤ n) (h4 : n ≤ 1048576) : Calls Try.prog 25 #[.int .i64 e, .int .i64 n] w fun x w' => x = .returned (.bool true) ∧ ∃ k, w' = w.drewN k :=
  (ver_May.calls e n true w (may_yes h1 h2 h3 h4)).mono fun _ _ ⟨a, b⟩ => ⟨a, b.out⟩
theorem may_f (e n : Int) (w : World) (h : ¬ (1 ≤ e ∧ e ≤ 1048576 ∧ 1 ≤ n ∧ n ≤ 1048576)) : Calls Try.prog 25 #[.int .i64 e, .int .i64 n] w fun x w' => x = .returned (.bool false) ∧ ∃ k, w' = w.drewN k :=
  (ver_May.calls e n false w (may_no h)).mono fun _ _ ⟨a, b⟩ => ⟨a, b.out⟩
theorem of_t (e n : Int) (w : World) (h1 : 1 ≤ e) (h2 : e ≤ 1048576) (h3 : 1 ≤ n) (h4 : n ≤ 1048576) : Calls Try.prog 23 #[.int .i64 e, .int .i64 n] w fun x w' => ∃ v, x = .returned (.int .u64 v) ∧ v = e * 1048577 + n ∧ ∃ k, w' = w.drewN k :=
  (ver_Of.calls e n _ w (of_yes h1 h2 h3 h4)).mono fun _ _ ⟨a, b⟩ => ⟨_, a, rfl, b.out⟩
theorem of_f (e n : Int) (w : World) (h : ¬ (1 ≤ e ∧ e ≤ 1048576 ∧ 1 ≤ n ∧ n ≤ 1048576)) : Calls Try.prog 23 #[.int .i64 e, .int .i64 n] w fun x w' => x = .returned (.int .u64 0) ∧ ∃ k, w' = w.drewN k :=
  (ver_Of.calls e n _ w (of_no h)).mono fun _ _ ⟨a, b⟩ => ⟨a, b.out⟩
theorem ep_t (v : Int) (w : World) (h0 : 0 ≤ v) (h1 : v < 18446744073709551616) (a : 1 ≤ v / 1048577) (b : v / 1048577 ≤ 1048576) (c : 1 ≤ v % 1048577) : Calls Try.prog 26 #[.int .u64 v] w fun x w' => x = .returned (.int .i64 (v / 1048577)) ∧ ∃ k, w' = w.drewN k :=
  (ver_Epoch.calls v _ w (epoch_yes h0 h1 a b c)).mono fun _ _ ⟨a, b⟩ => ⟨a, b.out⟩
theorem ep_f (v : Int) (w : World) (h0 : 0 ≤ v) (h1 : v < 18446744073709551616) (a : ¬ (1 ≤ v / 1048577 ∧ v / 1048577 ≤ 1048576 ∧ 1 ≤ v % 1048577)) : Calls Try.prog 26 #[.int .u64 v] w fun x w' => x = .returned (.int .i64 0) ∧ ∃ k, w' = w.drewN k :=
  (ver_Epoch.calls v _ w (epoch_no h0 h1 a)).mono fun _ _ ⟨a, b⟩ => ⟨a, b.out⟩
theorem co_t (v : Int) (w : World) (h0 : 0 ≤ v) (h1 : v < 18446744073709551616) (a : 1 ≤ v / 1048577) (b : v / 1048577 ≤ 1048576) (c : 1 ≤ v % 1048577) : Calls Try.prog 27 #[.int .u64 v] w fun x w' => x = .returned (.int .i64 (v % 1048577)) ∧ ∃ k, w' = w.drewN k :=
  (ver_Count.calls v _ w (count_yes h0 h1 a b c)).mono fun _ _ ⟨a, b⟩ => ⟨a, b.out⟩
theorem co_f (v : Int) (w : World) (h0 : 0 ≤ v) (h1 : v < 18446744073709551616) (a : ¬ (1 ≤ v / 1048577 ∧ v / 1048577 ≤ 1048576 ∧ 1 ≤ v % 1048577)) : Calls Try.prog 27 #[.int .u64 v] w fun x w' => x = .returned (.int .i64 0) ∧ ∃ k, w' = w.drewN k :=
  (ver_Count.calls v _ w (count_no h0 h1 a)).mono fun _ _ ⟨a, b⟩ => ⟨a, b.out⟩

set_option maxHeartbeats 4000000 in
set_option maxRecDepth 100000 in
theorem walk_yes (a0 a1 v : Int) (W : World) (h0 : 0 ≤ v) (h1 : v < 18446744073709551616) (k1 : 1 ≤ v / 1048577) (k2 : v / 1048577 ≤ 1048576) (k3 : 1 ≤ v % 1048577) :
    Calls Try.prog 8 #[.int .i64 a0, .int .i64 a1, .int .u64 v] W fun e w' => e = .returned (.bool true) ∧ Below W.heap.size W w' := by
  have p1 : 0 < v / 1048577 := by omega
  have p2 : 0 < v % 1048577 := by omega
  have hv : v / 1048577 * 1048577 + v % 1048577 = v := by omega
  have HV := Lib.hid hv
  clear hv
  by_cases c1 : 1 ≤ a0
  · by_cases c2 : a0 ≤ 1048576
    · by_cases c3 : 1 ≤ a1
      · by_cases c4 : a1 ≤ 1048576
        · go_enter Try.func8, Try.ntmps8
          go_wp2_with fail
          refine (awake_any _).mono ?_; rintro e w1 ⟨rfl, hb⟩
          go_wp2_with fail
          refine (may_t a0 a1 _ c1 c2 c3 c4).mono ?_; rintro e w2 ⟨rfl, n1, rfl⟩
          go_wp2_with fail
          refine (of_t a0 a1 _ c1 c2 c3 c4).mono ?_; rintro e w2 ⟨x, rfl, hx, n2, rfl⟩
          have hx0 : 0 < x := by omega
          clear hx
          go_wp2_with fail
          refine (ep_t v _ h0 h1 k1 k2 k3).mono ?_; rintro e w2 ⟨rfl, n3, rfl⟩
          go_wp2_with fail
          refine (co_t v _ h0 h1 k1 k2 k3).mono ?_; rintro e w2 ⟨rfl, n4, rfl⟩
          go_wp2_with fail
          refine (ep_t v _ h0 h1 k1 k2 k3).mono ?_; rintro e w2 ⟨rfl, n5, rfl⟩
          go_wp2_with fail
          refine (co_t v _ h0 h1 k1 k2 k3).mono ?_; rintro e w2 ⟨rfl, n6, rfl⟩
          go_wp2_with fail
          refine (of_t _ _ _ k1 k2 k3 (by omega)).mono ?_; rintro e w2 ⟨x', rfl, hx', n7, rfl⟩
          have fin : (x' == v) = true := beq_iff_eq.2 (hx'.trans HV.out)
          clear hx'
          go_wp2_with fail
          go_ret
          exact ⟨rfl, bn hb _⟩
        · go_enter Try.func8, Try.ntmps8
          go_wp2_with fail
          refine (awake_any _).mono ?_; rintro e w1 ⟨rfl, hb⟩
          go_wp2_with fail
          refine (may_f a0 a1 _ (by omega)).mono ?_; rintro e w2 ⟨rfl, n1, rfl⟩
          go_wp2_with fail
          refine (of_f a0 a1 _ (by omega)).mono ?_; rintro e w2 ⟨rfl, n2, rfl⟩
          go_wp2_with fail
          refine (ep_t v _ h0 h1 k1 k2 k3).mono ?_; rintro e w2 ⟨rfl, n3, rfl⟩
          go_wp2_with fail
          refine (co_t v _ h0 h1 k1 k2 k3).mono ?_; rintro e w2 ⟨rfl, n4, rfl⟩
          go_wp2_with fail
          refine (ep_t v _ h0 h1 k1 k2 k3).mono ?_; rintro e w2 ⟨rfl, n5, rfl⟩
          go_wp2_with fail
          refine (co_t v _ h0 h1 k1 k2 k3).mono ?_; rintro e w2 ⟨rfl, n6, rfl⟩
          go_wp2_with fail
          refine (of_t _ _ _ k1 k2 k3 (by omega)).mono ?_; rintro e w2 ⟨x', rfl, hx', n7, rfl⟩
          have fin : (x' == v) = true := beq_iff_eq.2 (hx'.trans HV.out)
          clear hx'
          go_wp2_with fail
          go_ret
          exact ⟨rfl, bn hb _⟩
      · go_enter Try.func8, Try.ntmps8
        go_wp2_with fail
        refine (awake_any _).mono ?_; rintro e w1 ⟨rfl, hb⟩
        go_wp2_with fail
        refine (may_f a0 a1 _ (by omega)).mono ?_; rintro e w2 ⟨rfl, n1, rfl⟩
        go_wp2_with fail
        refine (of_f a0 a1 _ (by omega)).mono ?_; rintro e w2 ⟨rfl, n2, rfl⟩
        go_wp2_with fail
        refine (ep_t v _ h0 h1 k1 k2 k3).mono ?_; rintro e w2 ⟨rfl, n3, rfl⟩
        go_wp2_with fail
        refine (co_t v _ h0 h1 k1 k2 k3).mono ?_; rintro e w2 ⟨rfl, n4, rfl⟩
        go_wp2_with fail
        refine (ep_t v _ h0 h1 k1 k2 k3).mono ?_; rintro e w2 ⟨rfl, n5, rfl⟩
        go_wp2_with fail
        refine (co_t v _ h0 h1 k1 k2 k3).mono ?_; rintro e w2 ⟨rfl, n6, rfl⟩
        go_wp2_with fail
        refine (of_t _ _ _ k1 k2 k3 (by omega)).mono ?_; rintro e w2 ⟨x', rfl, hx', n7, rfl⟩
        have fin : (x' == v) = true := beq_iff_eq.2 (hx'.trans HV.out)
        clear hx'
        go_wp2_with fail
        go_ret
        exact ⟨rfl, bn hb _⟩
    · go_enter Try.func8, Try.ntmps8
      go_wp2_with fail
      refine (awake_any _).mono ?_; rintro e w1 ⟨rfl, hb⟩
      go_wp2_with fail
      refine (may_f a0 a1 _ (by omega)).mono ?_; rintro e w2 ⟨rfl, n1, rfl⟩
      go_wp2_with fail
      refine (of_f a0 a1 _ (by omega)).mono ?_; rintro e w2 ⟨rfl, n2, rfl⟩
      go_wp2_with fail
      refine (ep_t v _ h0 h1 k1 k2 k3).mono ?_; rintro e w2 ⟨rfl, n3, rfl⟩
      go_wp2_with fail
      refine (co_t v _ h0 h1 k1 k2 k3).mono ?_; rintro e w2 ⟨rfl, n4, rfl⟩
      go_wp2_with fail
      refine (ep_t v _ h0 h1 k1 k2 k3).mono ?_; rintro e w2 ⟨rfl, n5, rfl⟩
      go_wp2_with fail
      refine (co_t v _ h0 h1 k1 k2 k3).mono ?_; rintro e w2 ⟨rfl, n6, rfl⟩
      go_wp2_with fail
      refine (of_t _ _ _ k1 k2 k3 (by omega)).mono ?_; rintro e w2 ⟨x', rfl, hx', n7, rfl⟩
      have fin : (x' == v) = true := beq_iff_eq.2 (hx'.trans HV.out)
      clear hx'
      go_wp2_with fail
      go_ret
      exact ⟨rfl, bn hb _⟩
  · go_enter Try.func8, Try.ntmps8
    go_wp2_with fail
    refine (awake_any _).mono ?_; rintro e w1 ⟨rfl, hb⟩
    go_wp2_with fail
    refine (may_f a0 a1 _ (by omega)).mono ?_; rintro e w2 ⟨rfl, n1, rfl⟩
    go_wp2_with fail
    refine (of_f a0 a1 _ (by omega)).mono ?_; rintro e w2 ⟨rfl, n2, rfl⟩
    go_wp2_with fail
    refine (ep_t v _ h0 h1 k1 k2 k3).mono ?_; rintro e w2 ⟨rfl, n3, rfl⟩
    go_wp2_with fail
    refine (co_t v _ h0 h1 k1 k2 k3).mono ?_; rintro e w2 ⟨rfl, n4, rfl⟩
    go_wp2_with fail
    refine (ep_t v _ h0 h1 k1 k2 k3).mono ?_; rintro e w2 ⟨rfl, n5, rfl⟩
    go_wp2_with fail
    refine (co_t v _ h0 h1 k1 k2 k3).mono ?_; rintro e w2 ⟨rfl, n6, rfl⟩
    go_wp2_with fail
    refine (of_t _ _ _ k1 k2 k3 (by omega)).mono ?_; rintro e w2 ⟨x', rfl, hx', n7, rfl⟩
    have fin : (x' == v) = true := beq_iff_eq.2 (hx'.trans HV.out)
    clear hx'
    go_wp2_with fail
    go_ret
    exact ⟨rfl, bn hb _⟩
set_option maxHeartbeats 4000000 in
set_option maxRecDepth 100000 in
theorem walk_no1 (a0 a1 v : Int) (W : World) (h0 : 0 ≤ v) (h1 : v < 18446744073709551616) (k1 : v / 1048577 < 1) :
    Calls Try.prog 8 #[.int .i64 a0, .int .i64 a1, .int .u64 v] W fun e w' => e = .returned (.bool true) ∧ Below W.heap.size W w' := by
  have hk : ¬ (1 ≤ v / 1048577 ∧ v / 1048577 ≤ 1048576 ∧ 1 ≤ v % 1048577) := by omega
  by_cases c1 : 1 ≤ a0
  · by_cases c2 : a0 ≤ 1048576
    · by_cases c3 : 1 ≤ a1
      · by_cases c4 : a1 ≤ 1048576
        · go_enter Try.func8, Try.ntmps8
          go_wp2_with fail
          refine (awake_any _).mono ?_; rintro e w1 ⟨rfl, hb⟩
          go_wp2_with fail
          refine (may_t a0 a1 _ c1 c2 c3 c4).mono ?_; rintro e w2 ⟨rfl, n1, rfl⟩
          go_wp2_with fail
          refine (of_t a0 a1 _ c1 c2 c3 c4).mono ?_; rintro e w2 ⟨x, rfl, hx, n2, rfl⟩
          have hx0 : 0 < x := by omega
          clear hx
          go_wp2_with fail
          refine (ep_f v _ h0 h1 hk).mono ?_; rintro e w2 ⟨rfl, n3, rfl⟩
          go_wp2_with fail
          refine (co_f v _ h0 h1 hk).mono ?_; rintro e w2 ⟨rfl, n4, rfl⟩
          go_wp2_with fail
          go_ret
          exact ⟨rfl, bn hb _⟩
        · go_enter Try.func8, Try.ntmps8
          go_wp2_with fail
          refine (awake_any _).mono ?_; rintro e w1 ⟨rfl, hb⟩
          go_wp2_with fail
          refine (may_f a0 a1 _ (by omega)).mono ?_; rintro e w2 ⟨rfl, n1, rfl⟩
          go_wp2_with fail
          refine (of_f a0 a1 _ (by omega)).mono ?_; rintro e w2 ⟨rfl, n2, rfl⟩
          go_wp2_with fail
          refine (ep_f v _ h0 h1 hk).mono ?_; rintro e w2 ⟨rfl, n3, rfl⟩
          go_wp2_with fail
          refine (co_f v _ h0 h1 hk).mono ?_; rintro e w2 ⟨rfl, n4, rfl⟩
          go_wp2_with fail
          go_ret
          exact ⟨rfl, bn hb _⟩
      · go_enter Try.func8, Try.ntmps8
        go_wp2_with fail
        refine (awake_any _).mono ?_; rintro e w1 ⟨rfl, hb⟩
        go_wp2_with fail
        refine (may_f a0 a1 _ (by omega)).mono ?_; rintro e w2 ⟨rfl, n1, rfl⟩
        go_wp2_with fail
        refine (of_f a0 a1 _ (by omega)).mono ?_; rintro e w2 ⟨rfl, n2, rfl⟩
        go_wp2_with fail
        refine (ep_f v _ h0 h1 hk).mono ?_; rintro e w2 ⟨rfl, n3, rfl⟩
        go_wp2_with fail
        refine (co_f v _ h0 h1 hk).mono ?_; rintro e w2 ⟨rfl, n4, rfl⟩
        go_wp2_with fail
        go_ret
        exact ⟨rfl, bn hb _⟩
    · go_enter Try.func8, Try.ntmps8
      go_wp2_with fail
      refine (awake_any _).mono ?_; rintro e w1 ⟨rfl, hb⟩
      go_wp2_with fail
      refine (may_f a0 a1 _ (by omega)).mono ?_; rintro e w2 ⟨rfl, n1, rfl⟩
      go_wp2_with fail
      refine (of_f a0 a1 _ (by omega)).mono ?_; rintro e w2 ⟨rfl, n2, rfl⟩
      go_wp2_with fail
      refine (ep_f v _ h0 h1 hk).mono ?_; rintro e w2 ⟨rfl, n3, rfl⟩
      go_wp2_with fail
      refine (co_f v _ h0 h1 hk).mono ?_; rintro e w2 ⟨rfl, n4, rfl⟩
      go_wp2_with fail
      go_ret
      exact ⟨rfl, bn hb _⟩
  · go_enter Try.func8, Try.ntmps8
    go_wp2_with fail
    refine (awake_any _).mono ?_; rintro e w1 ⟨rfl, hb⟩
    go_wp2_with fail
    refine (may_f a0 a1 _ (by omega)).mono ?_; rintro e w2 ⟨rfl, n1, rfl⟩
    go_wp2_with fail
    refine (of_f a0 a1 _ (by omega)).mono ?_; rintro e w2 ⟨rfl, n2, rfl⟩
    go_wp2_with fail
    refine (ep_f v _ h0 h1 hk).mono ?_; rintro e w2 ⟨rfl, n3, rfl⟩
    go_wp2_with fail
    refine (co_f v _ h0 h1 hk).mono ?_; rintro e w2 ⟨rfl, n4, rfl⟩
    go_wp2_with fail
    go_ret
    exact ⟨rfl, bn hb _⟩
set_option maxHeartbeats 4000000 in
set_option maxRecDepth 100000 in
theorem walk_no2 (a0 a1 v : Int) (W : World) (h0 : 0 ≤ v) (h1 : v < 18446744073709551616) (k1 : 1 ≤ v / 1048577) (k2 : 1048576 < v / 1048577) :
    Calls Try.prog 8 #[.int .i64 a0, .int .i64 a1, .int .u64 v] W fun e w' => e = .returned (.bool true) ∧ Below W.heap.size W w' := by
  have hk : ¬ (1 ≤ v / 1048577 ∧ v / 1048577 ≤ 1048576 ∧ 1 ≤ v % 1048577) := by omega
  by_cases c1 : 1 ≤ a0
  · by_cases c2 : a0 ≤ 1048576
    · by_cases c3 : 1 ≤ a1
      · by_cases c4 : a1 ≤ 1048576
        · go_enter Try.func8, Try.ntmps8
          go_wp2_with fail
          refine (awake_any _).mono ?_; rintro e w1 ⟨rfl, hb⟩
          go_wp2_with fail
          refine (may_t a0 a1 _ c1 c2 c3 c4).mono ?_; rintro e w2 ⟨rfl, n1, rfl⟩
          go_wp2_with fail
          refine (of_t a0 a1 _ c1 c2 c3 c4).mono ?_; rintro e w2 ⟨x, rfl, hx, n2, rfl⟩
          have hx0 : 0 < x := by omega
          clear hx
          go_wp2_with fail
          refine (ep_f v _ h0 h1 hk).mono ?_; rintro e w2 ⟨rfl, n3, rfl⟩
          go_wp2_with fail
          refine (co_f v _ h0 h1 hk).mono ?_; rintro e w2 ⟨rfl, n4, rfl⟩
          go_wp2_with fail
          go_ret
          exact ⟨rfl, bn hb _⟩
        · go_enter Try.func8, Try.ntmps8
          go_wp2_with fail
          refine (awake_any _).mono ?_; rintro e w1 ⟨rfl, hb⟩
          go_wp2_with fail
          refine (may_f a0 a1 _ (by omega)).mono ?_; rintro e w2 ⟨rfl, n1, rfl⟩
          go_wp2_with fail
          refine (of_f a0 a1 _ (by omega)).mono ?_; rintro e w2 ⟨rfl, n2, rfl⟩
          go_wp2_with fail
          refine (ep_f v _ h0 h1 hk).mono ?_; rintro e w2 ⟨rfl, n3, rfl⟩
          go_wp2_with fail
          refine (co_f v _ h0 h1 hk).mono ?_; rintro e w2 ⟨rfl, n4, rfl⟩
          go_wp2_with fail
          go_ret
          exact ⟨rfl, bn hb _⟩
      · go_enter Try.func8, Try.ntmps8
        go_wp2_with fail
        refine (awake_any _).mono ?_; rintro e w1 ⟨rfl, hb⟩
        go_wp2_with fail
        refine (may_f a0 a1 _ (by omega)).mono ?_; rintro e w2 ⟨rfl, n1, rfl⟩
        go_wp2_with fail
        refine (of_f a0 a1 _ (by omega)).mono ?_; rintro e w2 ⟨rfl, n2, rfl⟩
        go_wp2_with fail
        refine (ep_f v _ h0 h1 hk).mono ?_; rintro e w2 ⟨rfl, n3, rfl⟩
        go_wp2_with fail
        refine (co_f v _ h0 h1 hk).mono ?_; rintro e w2 ⟨rfl, n4, rfl⟩
        go_wp2_with fail
        go_ret
        exact ⟨rfl, bn hb _⟩
    · go_enter Try.func8, Try.ntmps8
      go_wp2_with fail
      refine (awake_any _).mono ?_; rintro e w1 ⟨rfl, hb⟩
      go_wp2_with fail
      refine (may_f a0 a1 _ (by omega)).mono ?_; rintro e w2 ⟨rfl, n1, rfl⟩
      go_wp2_with fail
      refine (of_f a0 a1 _ (by omega)).mono ?_; rintro e w2 ⟨rfl, n2, rfl⟩
      go_wp2_with fail
      refine (ep_f v _ h0 h1 hk).mono ?_; rintro e w2 ⟨rfl, n3, rfl⟩
      go_wp2_with fail
      refine (co_f v _ h0 h1 hk).mono ?_; rintro e w2 ⟨rfl, n4, rfl⟩
      go_wp2_with fail
      go_ret
      exact ⟨rfl, bn hb _⟩
  · go_enter Try.func8, Try.ntmps8
    go_wp2_with fail
    refine (awake_any _).mono ?_; rintro e w1 ⟨rfl, hb⟩
    go_wp2_with fail
    refine (may_f a0 a1 _ (by omega)).mono ?_; rintro e w2 ⟨rfl, n1, rfl⟩
    go_wp2_with fail
    refine (of_f a0 a1 _ (by omega)).mono ?_; rintro e w2 ⟨rfl, n2, rfl⟩
    go_wp2_with fail
    refine (ep_f v _ h0 h1 hk).mono ?_; rintro e w2 ⟨rfl, n3, rfl⟩
    go_wp2_with fail
    refine (co_f v _ h0 h1 hk).mono ?_; rintro e w2 ⟨rfl, n4, rfl⟩
    go_wp2_with fail
    go_ret
    exact ⟨rfl, bn hb _⟩
set_option maxHeartbeats 4000000 in
set_option maxRecDepth 100000 in
theorem walk_no3 (a0 a1 v : Int) (W : World) (h0 : 0 ≤ v) (h1 : v < 18446744073709551616) (k1 : 1 ≤ v / 1048577) (k2 : v / 1048577 ≤ 1048576) (k3 : v % 1048577 < 1) :
    Calls Try.prog 8 #[.int .i64 a0, .int .i64 a1, .int .u64 v] W fun e w' => e = .returned (.bool true) ∧ Below W.heap.size W w' := by
  have hk : ¬ (1 ≤ v / 1048577 ∧ v / 1048577 ≤ 1048576 ∧ 1 ≤ v % 1048577) := by omega
  by_cases c1 : 1 ≤ a0
  · by_cases c2 : a0 ≤ 1048576
    · by_cases c3 : 1 ≤ a1
      · by_cases c4 : a1 ≤ 1048576
        · go_enter Try.func8, Try.ntmps8
          go_wp2_with fail
          refine (awake_any _).mono ?_; rintro e w1 ⟨rfl, hb⟩
          go_wp2_with fail
          refine (may_t a0 a1 _ c1 c2 c3 c4).mono ?_; rintro e w2 ⟨rfl, n1, rfl⟩
          go_wp2_with fail
          refine (of_t a0 a1 _ c1 c2 c3 c4).mono ?_; rintro e w2 ⟨x, rfl, hx, n2, rfl⟩
          have hx0 : 0 < x := by omega
          clear hx
          go_wp2_with fail
          refine (ep_f v _ h0 h1 hk).mono ?_; rintro e w2 ⟨rfl, n3, rfl⟩
          go_wp2_with fail
          refine (co_f v _ h0 h1 hk).mono ?_; rintro e w2 ⟨rfl, n4, rfl⟩
          go_wp2_with fail
          go_ret
          exact ⟨rfl, bn hb _⟩
        · go_enter Try.func8, Try.ntmps8
          go_wp2_with fail
          refine (awake_any _).mono ?_; rintro e w1 ⟨rfl, hb⟩
          go_wp2_with fail
          refine (may_f a0 a1 _ (by omega)).mono ?_; rintro e w2 ⟨rfl, n1, rfl⟩
          go_wp2_with fail
          refine (of_f a0 a1 _ (by omega)).mono ?_; rintro e w2 ⟨rfl, n2, rfl⟩
          go_wp2_with fail
          refine (ep_f v _ h0 h1 hk).mono ?_; rintro e w2 ⟨rfl, n3, rfl⟩
          go_wp2_with fail
          refine (co_f v _ h0 h1 hk).mono ?_; rintro e w2 ⟨rfl, n4, rfl⟩
          go_wp2_with fail
          go_ret
          exact ⟨rfl, bn hb _⟩
      · go_enter Try.func8, Try.ntmps8
        go_wp2_with fail
        refine (awake_any _).mono ?_; rintro e w1 ⟨rfl, hb⟩
        go_wp2_with fail
        refine (may_f a0 a1 _ (by omega)).mono ?_; rintro e w2 ⟨rfl, n1, rfl⟩
        go_wp2_with fail
        refine (of_f a0 a1 _ (by omega)).mono ?_; rintro e w2 ⟨rfl, n2, rfl⟩
        go_wp2_with fail
        refine (ep_f v _ h0 h1 hk).mono ?_; rintro e w2 ⟨rfl, n3, rfl⟩
        go_wp2_with fail
        refine (co_f v _ h0 h1 hk).mono ?_; rintro e w2 ⟨rfl, n4, rfl⟩
        go_wp2_with fail
        go_ret
        exact ⟨rfl, bn hb _⟩
    · go_enter Try.func8, Try.ntmps8
      go_wp2_with fail
      refine (awake_any _).mono ?_; rintro e w1 ⟨rfl, hb⟩
      go_wp2_with fail
      refine (may_f a0 a1 _ (by omega)).mono ?_; rintro e w2 ⟨rfl, n1, rfl⟩
      go_wp2_with fail
      refine (of_f a0 a1 _ (by omega)).mono ?_; rintro e w2 ⟨rfl, n2, rfl⟩
      go_wp2_with fail
      refine (ep_f v _ h0 h1 hk).mono ?_; rintro e w2 ⟨rfl, n3, rfl⟩
      go_wp2_with fail
      refine (co_f v _ h0 h1 hk).mono ?_; rintro e w2 ⟨rfl, n4, rfl⟩
      go_wp2_with fail
      go_ret
      exact ⟨rfl, bn hb _⟩
  · go_enter Try.func8, Try.ntmps8
    go_wp2_with fail
    refine (awake_any _).mono ?_; rintro e w1 ⟨rfl, hb⟩
    go_wp2_with fail
    refine (may_f a0 a1 _ (by omega)).mono ?_; rintro e w2 ⟨rfl, n1, rfl⟩
    go_wp2_with fail
    refine (of_f a0 a1 _ (by omega)).mono ?_; rintro e w2 ⟨rfl, n2, rfl⟩
    go_wp2_with fail
    refine (ep_f v _ h0 h1 hk).mono ?_; rintro e w2 ⟨rfl, n3, rfl⟩
    go_wp2_with fail
    refine (co_f v _ h0 h1 hk).mono ?_; rintro e w2 ⟨rfl, n4, rfl⟩
    go_wp2_with fail
    go_ret
    exact ⟨rfl, bn hb _⟩
theorem walk (a0 : Int) (_w0 : (Lit.int .i64 a0).wf = true) (a1 : Int) (_w1 : (Lit.int .i64 a1).wf = true) (v : Int) (w2 : (Lit.int .u64 v).wf = true) (W : World) :
    Calls Try.prog 8 #[.int .i64 a0, .int .i64 a1, .int .u64 v] W fun e w' => e = .returned (.bool true) ∧ Below W.heap.size W w' := by
  have hb := bounds_u64 w2
  by_cases k1 : 1 ≤ v / 1048577
  · by_cases k2 : v / 1048577 ≤ 1048576
    · by_cases k3 : 1 ≤ v % 1048577
      · exact walk_yes a0 a1 v W (by omega) (by omega) k1 k2 k3
      · exact walk_no3 a0 a1 v W (by omega) (by omega) k1 k2 (by omega)
    · exact walk_no2 a0 a1 v W (by omega) (by omega) k1 (by omega)
  · exact walk_no1 a0 a1 v W (by omega) (by omega) (by omega)
end Go.Proofs.Ytgainlmekgcfnaa.verMay
