/- Versions follow one behind the other within an epoch, up to the most: the printed law answers true for all integers; no condition beyond each integer's kind. -/
import Derived.Test.YtgainlmekgcfnaaPVerNextx1
import Derived.OpenShut
import Derived.Laws.Bits64
namespace Go.Proofs.Ytgainlmekgcfnaa.Pure
open Go Go.RowKit Go.Proofs.Ytgainlmekgcfnaa.PVerNext Go.Proofs.YtgainlmekgcfnaaW.PrintWords Go.Proofs.YtgainlmekgcfnaaW.PrintLast Go.Proofs.YtgainlmekgcfnaaW.PrintMore

theorem and_mask_i64 (a : Int) (j : Nat) (hj : j ≤ 62) : Go.bits .and .i64 a ((2 ^ j - 1 : Nat) : Int) = a % ((2 ^ j : Nat) : Int) := by
  have hp : 2 ^ j ≤ 2 ^ 62 := Nat.pow_le_pow_right (by decide) hj
  have h1 : 0 < 2 ^ j := Nat.pow_pos (by decide)
  show IntKind.i64.wrap ((((BitVec.ofInt 64 a) &&& (BitVec.ofInt 64 ((2 ^ j - 1 : Nat) : Int)) : BitVec 64).toNat : Nat) : Int) = _
  have e2 : (BitVec.ofInt 64 ((2 ^ j - 1 : Nat) : Int)).toNat = 2 ^ j - 1 := by
    rw [BitVec.toNat_ofInt]
    omega
  rw [BitVec.toNat_and, e2, Nat.and_two_pow_sub_one_eq_mod]
  have e1 : (BitVec.ofInt 64 a).toNat = (a % 18446744073709551616).toNat := by
    rw [BitVec.toNat_ofInt]; rfl
  rw [e1]
  have e3 : (((a % 18446744073709551616).toNat % 2 ^ j : Nat) : Int) = a % ((2 ^ j : Nat) : Int) := by
    rw [Int.natCast_emod, Int.toNat_of_nonneg (by omega)]
    refine Int.emod_emod_of_dvd _ ?_
    have : (18446744073709551616 : Int) = ((2 ^ 64 : Nat) : Int) := by decide
    rw [this]
    exact Int.natCast_dvd_natCast.2 (Nat.pow_dvd_pow 2 (by omega))
  rw [e3]
  have h2 : 0 ≤ a % ((2 ^ j : Nat) : Int) := Int.emod_nonneg _ (by omega)
  have h3 : a % ((2 ^ j : Nat) : Int) < ((2 ^ j : Nat) : Int) := Int.emod_lt_of_pos _ (by omega)
  rw [IntKind.wrap_i64]
  omega

theorem w64 {x : Int} (h0 : -9223372036854775808 ≤ x) (h1 : x ≤ 9223372036854775807) : wrap64 x = x := by unfold wrap64; omega
theorem wu64 {x : Int} (h0 : 0 ≤ x) (h1 : x < 18446744073709551616) : IntKind.u64.wrap x = x := by rw [IntKind.wrap_u64]; omega

theorem may_yes {e n : Int} (h1 : 1 ≤ e) (h2 : e ≤ 1048576) (h3 : 1 ≤ n) (h4 : n ≤ 1048576) : ver_May.f e n = some true := by
  unfold ver_May.f
  rw [if_pos h1, if_pos h2, if_pos h3, decide_eq_true h4]
theorem may_no {e n : Int} (h : ¬ (1 ≤ e ∧ e ≤ 1048576 ∧ 1 ≤ n ∧ n ≤ 1048576)) : ver_May.f e n = some false := by
  unfold ver_May.f
  by_cases a : e ≥ 1
  · rw [if_pos a]
    by_cases b : e ≤ 1048576
    · rw [if_pos b]
      by_cases c : n ≥ 1
      · rw [if_pos c, decide_eq_false (by omega)]
      · rw [if_neg c]
    · rw [if_neg b]
  · rw [if_neg a]
theorem of_yes {e n : Int} (h1 : 1 ≤ e) (h2 : e ≤ 1048576) (h3 : 1 ≤ n) (h4 : n ≤ 1048576) : ver_Of.f e n = some (e * 1048577 + n) := by
  unfold ver_Of.f
  rw [may_yes h1 h2 h3 h4]
  simp only [Option.bind_some, if_true]
  rw [wu64 (x := e) (by omega) (by omega), wu64 (x := n) (by omega) (by omega), wu64 (x := e * 1048577) (by omega) (by omega), wu64 (by omega) (by omega)]
theorem of_no {e n : Int} (h : ¬ (1 ≤ e ∧ e ≤ 1048576 ∧ 1 ≤ n ∧ n ≤ 1048576)) : ver_Of.f e n = some 0 := by
  unfold ver_Of.f
  rw [may_no h]
  simp only [Option.bind_some]
  rw [if_neg (by decide)]
theorem td {v : Int} (h : 0 ≤ v) : Int.tdiv v 1048577 = v / 1048577 := Int.tdiv_eq_ediv_of_nonneg h
theorem tm {v : Int} (h : 0 ≤ v) : Int.tmod v 1048577 = v % 1048577 := Int.tmod_eq_emod_of_nonneg h
/-- What is an epoch of a number: known | not. -/
theorem epoch_yes {v : Int} (h0 : 0 ≤ v) (_h1 : v < 18446744073709551616) (a : 1 ≤ v / 1048577) (b : v / 1048577 ≤ 1048576) (c : 1 ≤ v % 1048577) : ver_Epoch.f v = some (v / 1048577) := by
  unfold ver_Epoch.f
  rw [td h0, tm h0, wu64 (x := v / 1048577) (by omega) (by omega), if_neg (by omega), if_neg (by omega), if_neg (by omega), w64 (by omega) (by omega)]
theorem epoch_no {v : Int} (h0 : 0 ≤ v) (h1 : v < 18446744073709551616) (a : ¬ (1 ≤ v / 1048577 ∧ v / 1048577 ≤ 1048576 ∧ 1 ≤ v % 1048577)) : ver_Epoch.f v = some 0 := by
  unfold ver_Epoch.f
  rw [td h0, tm h0, wu64 (x := v / 1048577) (by omega) (by omega)]
  by_cases c1 : v / 1048577 > 1048576
  · rw [if_pos c1]
  · rw [if_neg c1]
    by_cases c2 : v % 1048577 = 0
    · rw [if_pos c2]
    · rw [if_neg c2, if_pos (by omega)]
theorem count_yes {v : Int} (h0 : 0 ≤ v) (h1 : v < 18446744073709551616) (a : 1 ≤ v / 1048577) (b : v / 1048577 ≤ 1048576) (c : 1 ≤ v % 1048577) : ver_Count.f v = some (v % 1048577) := by
  unfold ver_Count.f
  rw [epoch_yes h0 h1 a b c]
  simp only [Option.bind_some]
  rw [if_neg (by omega), tm h0, w64 (by omega) (by omega)]
theorem count_no {v : Int} (h0 : 0 ≤ v) (h1 : v < 18446744073709551616) (a : ¬ (1 ≤ v / 1048577 ∧ v / 1048577 ≤ 1048576 ∧ 1 ≤ v % 1048577)) : ver_Count.f v = some 0 := by
  unfold ver_Count.f
  rw [epoch_no h0 h1 a]
  simp
theorem awake_yes : tarnlaw10_awake.f = some true := by decide +kernel

theorem mn_le (a b : Int) : mn a b ≤ a ∧ mn a b ≤ b ∧ (mn a b = a ∨ mn a b = b) := by unfold mn; split <;> omega
theorem next_last {e n m : Int} (h1 : 1 ≤ e) (h2 : e ≤ 1048576) (h3 : 1 ≤ n) (h4 : n ≤ 1048576) (h : mn m 1048576 ≤ n) : ver_Next.f (e * 1048577 + n) m = some (0, false) := by
  unfold ver_Next.f
  rw [epoch_yes (by omega) (by omega) (by omega) (by omega) (by omega), count_yes (by omega) (by omega) (by omega) (by omega) (by omega)]
  simp only [Option.bind_some]
  rw [if_neg (by omega), if_pos (by omega)]
theorem next_more {e n m : Int} (h1 : 1 ≤ e) (h2 : e ≤ 1048576) (h3 : 1 ≤ n) (h4 : n < 1048576) (h : n < mn m 1048576) : ver_Next.f (e * 1048577 + n) m = some (e * 1048577 + n + 1, true) := by
  unfold ver_Next.f
  rw [epoch_yes (by omega) (by omega) (by omega) (by omega) (by omega), count_yes (by omega) (by omega) (by omega) (by omega) (by omega)]
  simp only [Option.bind_some]
  rw [if_neg (by omega), if_neg (by omega)]
  have q1 : (e * 1048577 + n) / 1048577 = e := by omega
  have q2 : (e * 1048577 + n) % 1048577 = n := by omega
  rw [q1, q2, w64 (x := n + 1) (by omega) (by omega), of_yes h1 h2 (by omega) (by omega)]
  simp only [Option.bind_some]
  rw [show e * 1048577 + (n + 1) = e * 1048577 + n + 1 by omega]
theorem next_zero (m : Int) : ver_Next.f 0 m = some (0, false) := by
  unfold ver_Next.f
  rw [epoch_no (by omega) (by omega) (by omega), count_no (by omega) (by omega) (by omega)]
  simp

/-- Behind the loop. -/
theorem ends (k : Nat) (many e m v i : Int) (h1 : 1 ≤ e) (h2 : e ≤ 1048576) : tarnlaw10_VerNext.j2 (k + 1) many e m v i false = some true := by
  simp only [tarnlaw10_VerNext.j2]
  rw [if_neg (by decide), of_yes h1 h2 (by omega) (by omega)]
  simp only [Option.bind_some]
  rw [next_last h1 h2 (by omega) (by omega) (mn_le many 1048576).2.1]
  simp only [Option.bind_some]
  rw [w64 (x := -e) (by omega) (by omega)]
  have f : ver_First.f (-e) 5 = some (0, false) := by
    unfold ver_First.f
    rw [if_neg (by omega), may_no (by omega)]
    simp
  rw [f]
  simp only [Option.bind_some]
  rw [next_zero, awake_yes]
  simp

theorem loop (many e m : Int) (h1 : 1 ≤ e) (h2 : e ≤ 1048576) (hm0 : 0 ≤ m) (hm1 : m ≤ 31) (d : Nat) : ∀ (k : Nat) (i : Int), 1 ≤ i → i ≤ m → m - i = d → 2 * d + 4 ≤ k →
    tarnlaw10_VerNext.l0 k many e m (e * 1048577 + i) true i = some true := by
  have hmn : mn m 1048576 = m := by unfold mn; rw [if_neg (by omega)]
  induction d with
  | zero =>
    intro k i a b c hk
    obtain ⟨k, rfl⟩ : ∃ q, k = q + 4 := ⟨k - 4, by omega⟩
    simp only [tarnlaw10_VerNext.l0]
    rw [if_pos (by omega)]
    simp only [tarnlaw10_VerNext.j2]
    rw [if_pos trivial, next_last h1 h2 (by omega) (by omega) (by omega)]
    simp only [Option.bind_some]
    rw [decide_eq_false (show ¬ i < m by omega), if_neg (by decide), if_neg (by decide), w64 (x := i + 1) (by omega) (by omega)]
    simp only [tarnlaw10_VerNext.l0]
    rw [ends _ _ _ _ _ _ h1 h2]
    simp
  | succ d ih =>
    intro k i a b c hk
    obtain ⟨k, rfl⟩ : ∃ q, k = q + 2 := ⟨k - 2, by omega⟩
    simp only [tarnlaw10_VerNext.l0]
    rw [if_pos (by omega)]
    simp only [tarnlaw10_VerNext.j2]
    rw [if_pos trivial, next_more h1 h2 (by omega) (by omega) (by omega)]
    simp only [Option.bind_some]
    rw [decide_eq_true (show i < m by omega), if_neg (by decide), if_pos trivial, wu64 (x := e * 1048577 + i + 1) (by omega) (by omega), if_pos rfl, w64 (x := i + 1) (by omega) (by omega)]
    have := ih k (i + 1) (by omega) (by omega) (by omega) (by omega)
    rw [show e * 1048577 + i + 1 = e * 1048577 + (i + 1) by omega]
    exact this

theorem VerNext : tarnlaw10_VerNext.Pure := by
  intro a0 a1 a2 _ _ _
  have m1 : Go.bits .and .i64 a0 1048575 = a0 % 1048576 := and_mask_i64 a0 20 (by decide)
  have m2 : Go.bits .and .i64 a1 31 = a1 % 32 := and_mask_i64 a1 5 (by decide)
  refine ⟨100, ?_⟩
  unfold tarnlaw10_VerNext.f
  rw [m1, m2]
  have he : ∃ e, e = a0 % 1048576 + 1 := ⟨_, rfl⟩
  obtain ⟨e, he⟩ := he
  obtain ⟨m, hm⟩ : ∃ m, m = a1 % 32 := ⟨_, rfl⟩
  rw [w64 (x := a0 % 1048576 + 1) (by omega) (by omega), ← he, ← hm]
  have h1 : 1 ≤ e := by omega
  have h2 : e ≤ 1048576 := by omega
  have hm0 : 0 ≤ m := by omega
  have hm1 : m ≤ 31 := by omega
  unfold ver_First.f
  by_cases c : m < 1
  · rw [if_pos c]
    simp only [Option.bind_some]
    rw [decide_eq_false (show ¬ m ≥ 1 by omega), if_neg (by decide), if_neg (by decide)]
    simp only [tarnlaw10_VerNext.j0]
    rw [if_neg (by decide)]
    simp only [tarnlaw10_VerNext.l0]
    rw [if_pos (by omega), ends _ _ _ _ _ _ h1 h2]
  · rw [if_neg c, may_yes h1 h2 (by omega) (by omega)]
    simp only [Option.bind_some, if_true]
    rw [of_yes h1 h2 (by omega) (by omega)]
    simp only [Option.bind_some]
    rw [decide_eq_true (show m ≥ 1 by omega), if_neg (by decide)]
    simp only [if_true]
    simp only [tarnlaw10_VerNext.j0]
    rw [if_neg (by simp)]
    exact loop a2 e m h1 h2 hm0 hm1 (m - 1).toNat 99 1 (by omega) (by omega) (by omega) (by omega)

end Go.Proofs.Ytgainlmekgcfnaa.Pure
