/- Numbers' lemmas for the versions' laws, over the printed functions of layer 10: masks, wraps, what Of, Epoch and Count answer. -/
import Derived.Test.YtgainlmekgcfnaaPVerOfx1
import Derived.OpenShut
import Derived.Laws.Bits64
namespace Go.Proofs.Ytgainlmekgcfnaa.VerLem
open Go Go.RowKit Go.Proofs.Ytgainlmekgcfnaa.PVerOf Go.Proofs.YtgainlmekgcfnaaW.PrintWords Go.Proofs.YtgainlmekgcfnaaW.PrintLast Go.Proofs.YtgainlmekgcfnaaW.PrintMore

theorem and_mask_i64 (a : Int) (j : Nat) (hj : j ≤ 62) : Go.bits .and .i64 a ((2 ^ j - 1 : Nat) : Int) = a % ((2 ^ j : Nat) : Int) := by
  have hp : 2 ^ j ≤ 2 ^ 62 := Nat.pow_le_pow_right (by decide) hj
  have h1 : 0 < 2 ^ j := Nat.pow_pos (by decide)
  show IntKind.i64.wrap ((((BitVec.ofInt 64 a) &&& (BitVec.ofInt 64 ((2 ^ j - 1 : Nat) : Int)) : BitVec 64).toNat : Nat) : Int) = _
  have e2 : (BitVec.ofInt 64 ((2 ^ j - 1 : Nat) : Int)).toNat = 2 ^ j - 1 := by
    rw [BitVec.toNat_ofInt]
    omega
  rw [BitVec.toNat_and, e2, Nat.and_two_pow_sub_one_eq_mod]
  have e1 : (BitVec.ofInt 64 a).toNat = (a % 18446744073709551616).toNat := by
    rw [BitVec.toNat_ofInt]; rfl
  rw [e1]
  have e3 : (((a % 18446744073709551616).toNat % 2 ^ j : Nat) : Int) = a % ((2 ^ j : Nat) : Int) := by
    rw [Int.natCast_emod, Int.toNat_of_nonneg (by omega)]
    refine Int.emod_emod_of_dvd _ ?_
    have : (18446744073709551616 : Int) = ((2 ^ 64 : Nat) : Int) := by decide
    rw [this]
    exact Int.natCast_dvd_natCast.2 (Nat.pow_dvd_pow 2 (by omega))
  rw [e3]
  have h2 : 0 ≤ a % ((2 ^ j : Nat) : Int) := Int.emod_nonneg _ (by omega)
  have h3 : a % ((2 ^ j : Nat) : Int) < ((2 ^ j : Nat) : Int) := Int.emod_lt_of_pos _ (by omega)
  rw [IntKind.wrap_i64]
  omega

theorem w64 {x : Int} (h0 : -9223372036854775808 ≤ x) (h1 : x ≤ 9223372036854775807) : wrap64 x = x := by unfold wrap64; omega
theorem wu64 {x : Int} (h0 : 0 ≤ x) (h1 : x < 18446744073709551616) : IntKind.u64.wrap x = x := by rw [IntKind.wrap_u64]; omega

theorem may_yes {e n : Int} (h1 : 1 ≤ e) (h2 : e ≤ 1048576) (h3 : 1 ≤ n) (h4 : n ≤ 1048576) : ver_May.f e n = some true := by
  unfold ver_May.f
  rw [if_pos h1, if_pos h2, if_pos h3, decide_eq_true h4]
theorem may_no {e n : Int} (h : ¬ (1 ≤ e ∧ e ≤ 1048576 ∧ 1 ≤ n ∧ n ≤ 1048576)) : ver_May.f e n = some false := by
  unfold ver_May.f
  by_cases a : e ≥ 1
  · rw [if_pos a]
    by_cases b : e ≤ 1048576
    · rw [if_pos b]
      by_cases c : n ≥ 1
      · rw [if_pos c, decide_eq_false (by omega)]
      · rw [if_neg c]
    · rw [if_neg b]
  · rw [if_neg a]
theorem of_yes {e n : Int} (h1 : 1 ≤ e) (h2 : e ≤ 1048576) (h3 : 1 ≤ n) (h4 : n ≤ 1048576) : ver_Of.f e n = some (e * 1048577 + n) := by
  unfold ver_Of.f
  rw [may_yes h1 h2 h3 h4]
  simp only [Option.bind_some, if_true]
  rw [wu64 (x := e) (by omega) (by omega), wu64 (x := n) (by omega) (by omega), wu64 (x := e * 1048577) (by omega) (by omega), wu64 (by omega) (by omega)]
theorem of_no {e n : Int} (h : ¬ (1 ≤ e ∧ e ≤ 1048576 ∧ 1 ≤ n ∧ n ≤ 1048576)) : ver_Of.f e n = some 0 := by
  unfold ver_Of.f
  rw [may_no h]
  simp only [Option.bind_some]
  rw [if_neg (by decide)]
theorem td {v : Int} (h : 0 ≤ v) : Int.tdiv v 1048577 = v / 1048577 := Int.tdiv_eq_ediv_of_nonneg h
theorem tm {v : Int} (h : 0 ≤ v) : Int.tmod v 1048577 = v % 1048577 := Int.tmod_eq_emod_of_nonneg h
/-- What is an epoch of a number: known | not. -/
theorem epoch_yes {v : Int} (h0 : 0 ≤ v) (_h1 : v < 18446744073709551616) (a : 1 ≤ v / 1048577) (b : v / 1048577 ≤ 1048576) (c : 1 ≤ v % 1048577) : ver_Epoch.f v = some (v / 1048577) := by
  unfold ver_Epoch.f
  rw [td h0, tm h0, wu64 (x := v / 1048577) (by omega) (by omega), if_neg (by omega), if_neg (by omega), if_neg (by omega), w64 (by omega) (by omega)]
theorem epoch_no {v : Int} (h0 : 0 ≤ v) (h1 : v < 18446744073709551616) (a : ¬ (1 ≤ v / 1048577 ∧ v / 1048577 ≤ 1048576 ∧ 1 ≤ v % 1048577)) : ver_Epoch.f v = some 0 := by
  unfold ver_Epoch.f
  rw [td h0, tm h0, wu64 (x := v / 1048577) (by omega) (by omega)]
  by_cases c1 : v / 1048577 > 1048576
  · rw [if_pos c1]
  · rw [if_neg c1]
    by_cases c2 : v % 1048577 = 0
    · rw [if_pos c2]
    · rw [if_neg c2, if_pos (by omega)]
theorem count_yes {v : Int} (h0 : 0 ≤ v) (h1 : v < 18446744073709551616) (a : 1 ≤ v / 1048577) (b : v / 1048577 ≤ 1048576) (c : 1 ≤ v % 1048577) : ver_Count.f v = some (v % 1048577) := by
  unfold ver_Count.f
  rw [epoch_yes h0 h1 a b c]
  simp only [Option.bind_some]
  rw [if_neg (by omega), tm h0, w64 (by omega) (by omega)]
theorem count_no {v : Int} (h0 : 0 ≤ v) (h1 : v < 18446744073709551616) (a : ¬ (1 ≤ v / 1048577 ∧ v / 1048577 ≤ 1048576 ∧ 1 ≤ v % 1048577)) : ver_Count.f v = some 0 := by
  unfold ver_Count.f
  rw [epoch_no h0 h1 a]
  simp
theorem awake_yes : tarnlaw10_awake.f = some true := by decide +kernel

end Go.Proofs.Ytgainlmekgcfnaa.VerLem
