/- The walk of the law SuperInput. -/
import Derived.Test.YtfacifhlcaghiaaSupL
import Derived.Deep.DeepCutAuto
import Derived.Deep.CutBlock
namespace Go.Proofs.Ytfacifhlcaghiaa.Sup
open Go Go.RowKit
open Go.Proofs.Ytfacifhlcaghiaa.Gen
open Go.Proofs.Ytfacifhlcaghiaa.Own
open Go.Proofs.Ytfacifhlcaghiaa.RowK
open Go.Proofs.Ytfacifhlcaghiaa.Num
open Go.Proofs.Ytfacifhlcaghiaa.NumC
open Go.Proofs.Ytfacifhlcaghiaa.Dsk
set_option linter.unusedVariables false
set_option linter.unusedSimpArgs false
theorem getS_blank : getS blankL = (0, [], false) := by decide +kernel
theorem getS_nil : getS [] = (0, [], false) := rfl
theorem best_no {g acc : Nat × Sec × Bool} (h : g.2.2 = false) : best g acc = acc := if_neg (by rw [h]; simp)
theorem best_yes {n : Nat} {s : Sec} {acc : Nat × Sec × Bool} (h : acc.1 < n) : best (n, s, true) acc = (n, s, true) := if_pos ⟨rfl, h⟩
/-- A blank disk with one writing. -/
theorem sec_one {m : Nat} (w : Wr) (a : Int) : secR (List.replicate m blankL) [w] a = if 0 ≤ a ∧ a < m then (if w.a = a then w.s else blankL) else [] := by
  unfold secR
  rw [List.length_replicate]
  by_cases h : 0 ≤ a ∧ a < m
  · rw [if_pos h, if_pos h]
    obtain ⟨k, rfl⟩ : ∃ k : Nat, a = k := ⟨a.toNat, by omega⟩
    rw [Int.toNat_natCast]
    have hb : (List.replicate m blankL).getD k [] = blankL := by
      rw [List.getD_eq_getElem?_getD, List.getElem?_replicate, if_pos (by omega)]
      rfl
    show (if w.a = (k : Int) then w.s else (List.replicate m blankL).getD k []) = _
    rw [hb]
  · rw [if_neg h, if_neg h]
theorem sec_none {m : Nat} (a : Int) : secR (List.replicate m blankL) [] a = if 0 ≤ a ∧ a < m then blankL else [] := by
  unfold secR
  rw [List.length_replicate]
  by_cases h : 0 ≤ a ∧ a < m
  · rw [if_pos h, if_pos h]
    obtain ⟨k, rfl⟩ : ∃ k : Nat, a = k := ⟨a.toNat, by omega⟩
    rw [Int.toNat_natCast]
    show (List.replicate m blankL).getD k [] = _
    rw [List.getD_eq_getElem?_getD, List.getElem?_replicate, if_pos (by omega)]
    rfl
  · rw [if_neg h, if_neg h]
theorem getS_none {m : Nat} (a : Int) : (getS (secR (List.replicate m blankL) [] a)).2.2 = false := by
  rw [sec_none]
  split
  · rw [getS_blank]
  · rfl
theorem read_none {m : Nat} (a : Int) : readS (List.replicate m blankL) [] a = (0, [], false) := by
  unfold readS
  split
  · rfl
  · show best _ (best _ (0, [], false)) = _
    rw [best_no (getS_none _), best_no (getS_none _)]
theorem read_one {m a n : Nat} {t : Sec} (h0 : n ≠ 0) (hn : n < 18446744073709551616) (ht : t.length ≤ 48) (ha : a + n % 2 < m) (ham : a ≤ 4096) : readS (List.replicate m blankL) [⟨(a : Int) + (n : Int) % 2, putL n t⟩] a = (n, padW t, true) := by
  unfold readS
  rw [if_neg (by omega)]
  show best (getS (secR _ _ ((a : Int) + ((1 : Nat) : Int)))) (best (getS (secR _ _ ((a : Int) + ((0 : Nat) : Int)))) (0, [], false)) = _
  rw [sec_one, sec_one]
  simp only
  have hgp := get_put h0 hn ht
  rcases (by omega : n % 2 = 0 ∨ n % 2 = 1) with h | h
  · rw [if_pos (show 0 ≤ (a : Int) + ((0 : Nat) : Int) ∧ (a : Int) + ((0 : Nat) : Int) < m by omega), if_pos (show (a : Int) + (n : Int) % 2 = (a : Int) + ((0 : Nat) : Int) by omega), hgp, best_yes (show (0, ([] : Sec), false).1 < n by show 0 < n; omega), best_no]
    split
    · rw [if_neg (by omega), getS_blank]
    · rfl
  · rw [if_pos (show 0 ≤ (a : Int) + ((1 : Nat) : Int) ∧ (a : Int) + ((1 : Nat) : Int) < m by omega), if_pos (show (a : Int) + (n : Int) % 2 = (a : Int) + ((1 : Nat) : Int) by omega), hgp]
    rw [if_pos (show 0 ≤ (a : Int) + ((0 : Nat) : Int) ∧ (a : Int) + ((0 : Nat) : Int) < m by omega), if_neg (show ¬ ((a : Int) + (n : Int) % 2 = (a : Int) + ((0 : Nat) : Int)) by omega), getS_blank, best_no (g := (0, [], false)) rfl, best_yes (show (0, ([] : Sec), false).1 < n by show 0 < n; omega)]
set_option maxRecDepth 20000 in
set_option maxHeartbeats 8000000 in
theorem input_in (W : World) (a n : Nat) (h0 : n ≠ 0) (hn : n < 18446744073709551616) (t : Sec) (ht : t.length ≤ 48) (ha : a + n % 2 < 5) :
    Calls Try.prog 8 #[.int .i64 a, .int .u64 n, .string ⟨t.toArray⟩] W fun e w' => e = .returned (.bool true) ∧ Below W.heap.size W w' := by
  have hnw := new_in W 5 (by omega) (by omega)
  rw [show ((5 : Nat) : Int) = 5 from rfl] at hnw
  unfold NewPost at hnw
  have HNW := Lib.hid hnw
  have hro := read_one (m := 5) h0 hn ht ha (by omega)
  have HRO := Lib.hid hro
  clear hnw hro
  have t1 : decide (0 ≤ (a : Int)) = true := decide_eq_true (by omega)
  have t2 : decide ((a : Int) ≤ 4 - (n : Int) % 2) = true := decide_eq_true (by omega)
  have t3 : decide (0 < (n : Int)) = true := decide_eq_true (by omega)
  have t3n : decide (0 < n) = true := decide_eq_true (by omega)
  have t4 : decide ((t.length : Int) ≤ 48) = true := decide_eq_true (by omega)
  have t4n : decide (t.length ≤ 48) = true := decide_eq_true ht
  have hm : (n : Int).tmod 2 = (n : Int) % 2 := by rw [Int.tmod_eq_emod_of_nonneg (by omega)]
  go_enter Try.func8, Try.ntmps8
  go_wp2_with fail
  refine HNW.out.mono ?_; rintro e w1 ⟨h, rfl, d1, b1⟩
  have hw1 := swrite_in w1 W.heap.size h _ [] d1 (by simp) a n h0 hn t ht (by rw [List.length_replicate]; exact ha)
  unfold DkPost ptr at hw1
  have HW1 := Lib.hid hw1
  unfold ptr
  clear hw1
  go_wp2_with fail
  refine HW1.out.mono ?_; rintro e w2 ⟨rfl, vA, vB, d2, k2, m2⟩
  have b2 := b1.trans (k2.below d1)
  have hrd := sread_any w2 W.heap.size (some _) _ _ d2 a (by omega) (by omega)
  rw [List.nil_append, HRO.out] at hrd
  unfold ptrO at hrd
  simp only [Option.map_some] at hrd
  have HRD := Lib.hid hrd
  clear hrd k2
  go_wp2_with fail
  refine HRD.out.mono ?_; rintro e w4 ⟨rfl, b4⟩
  have hb4 := b2.trans (b4.mono b2.size)
  go_wp2_with fail
  refine (awake5_any _).mono ?_; rintro e w5 ⟨rfl, b5⟩
  have hb5 := hb4.trans (b5.mono hb4.size)
  go_wp2_with fail
  go_ret
  exact ⟨rfl, hb5⟩
set_option maxRecDepth 20000 in
set_option maxHeartbeats 8000000 in
theorem input_out (W : World) (a : Int) (ha0 : -9223372036854775808 ≤ a) (ha1 : a ≤ 9223372036854775807) (n : Nat) (hn : n < 18446744073709551616) (t : Sec) (ht : t.length ≤ 9223372036854775807) (hno : ¬ (0 ≤ a ∧ a ≤ 4 - (n : Int) % 2 ∧ 0 < n ∧ t.length ≤ 48)) :
    Calls Try.prog 8 #[.int .i64 a, .int .u64 n, .string ⟨t.toArray⟩] W fun e w' => e = .returned (.bool true) ∧ Below W.heap.size W w' := by
  have hnw := new_in W 5 (by omega) (by omega)
  rw [show ((5 : Nat) : Int) = 5 from rfl] at hnw
  unfold NewPost at hnw
  have HNW := Lib.hid hnw
  clear hnw
  have hm : (n : Int).tmod 2 = (n : Int) % 2 := by rw [Int.tmod_eq_emod_of_nonneg (by omega)]
  have HNO := Lib.hid hno
  clear hno
  go_enter Try.func8, Try.ntmps8
  go_wp2_with fail
  refine HNW.out.mono ?_; rintro e w1 ⟨h, rfl, d1, b1⟩
  have hw1 := swrite_out w1 W.heap.size (some h) _ [] d1 a ha0 ha1 n hn t ht (by rw [List.length_replicate]; have := HNO.out; omega)
  unfold ptrO at hw1
  simp only [Option.map_some] at hw1
  have HW1 := Lib.hid hw1
  unfold ptr
  clear hw1
  go_wp2_with fail
  refine HW1.out.mono ?_; rintro e w2 ⟨rfl, b2⟩
  have hrd := sread_any w2 W.heap.size (some h) _ _ (d1.b b2) a ha0 ha1
  rw [read_none] at hrd
  unfold ptrO at hrd
  simp only [Option.map_some] at hrd
  have HRD := Lib.hid hrd
  have hb2 := b1.trans (b2.mono b1.size)
  clear hrd d1 b1 b2
  go_wp2_with fail
  refine HRD.out.mono ?_; rintro e w4 ⟨rfl, b4⟩
  have hb4 := hb2.trans (b4.mono hb2.size)
  go_upto_region 4 with fail
  go_cut [13] (fun s wx => s = .bool false ∧ wx = w4)
  case first =>
    by_cases c1 : 0 ≤ a
    · have t1 : decide (0 ≤ a) = true := decide_eq_true c1
      by_cases c2 : a ≤ 4 - (n : Int) % 2
      · have t2 : decide (a ≤ 4 - (n : Int) % 2) = true := decide_eq_true c2
        by_cases c3 : 0 < n
        · have t3 : decide (0 < (n : Int)) = true := decide_eq_true (by omega)
          have t3n : decide (0 < n) = true := decide_eq_true c3
          have t4 : decide ((t.length : Int) ≤ 48) = false := decide_eq_false (fun h => HNO.out ⟨c1, c2, c3, by omega⟩)
          have t4n : decide (t.length ≤ 48) = false := decide_eq_false (fun h => HNO.out ⟨c1, c2, c3, h⟩)
          clear c1 c2 c3
          go_wp2_with fail
          go_meet
          exact ⟨rfl, rfl⟩
        · have t3 : decide (0 < (n : Int)) = false := decide_eq_false (by omega)
          have t3n : decide (0 < n) = false := decide_eq_false c3
          clear c1 c2 c3
          go_wp2_with fail
          go_meet
          exact ⟨rfl, rfl⟩
      · have t2 : decide (a ≤ 4 - (n : Int) % 2) = false := decide_eq_false c2
        clear c1 c2
        go_wp2_with fail
        go_meet
        exact ⟨rfl, rfl⟩
    · have t1 : decide (0 ≤ a) = false := decide_eq_false c1
      clear c1
      go_wp2_with fail
      go_meet
      exact ⟨rfl, rfl⟩
  case rest =>
    obtain ⟨rfl, rfl⟩ := hcut
    go_wp2_with fail
    refine (awake5_any _).mono ?_; rintro e w5 ⟨rfl, b5⟩
    have hb5 := hb4.trans (b5.mono hb4.size)
    go_wp2_with fail
    go_ret
    exact ⟨rfl, hb5⟩
end Go.Proofs.Ytfacifhlcaghiaa.Sup
namespace Go.Proofs.Ytfacifhlcaghiaa.superInput
open Go Go.RowKit
theorem walk (a0 : Int) (w0 : (Lit.int .i64 a0).wf = true) (a1 : Int) (w1 : (Lit.int .u64 a1).wf = true) (a2 : ByteArray) (w2 : a2.size ≤ 140737488351232) {W : World} :
    Calls Try.prog 8 #[.int .i64 a0, .int .u64 a1, .string a2] W fun e w' => e = .returned (.bool true) ∧ Below W.heap.size W w' := by
  obtain ⟨⟨l⟩⟩ := a2
  have hl : l.length ≤ 140737488351232 := w2
  have h0 := bounds_i64 w0
  have h1 := bounds_u64 w1
  obtain ⟨n, rfl⟩ : ∃ n : Nat, a1 = n := ⟨a1.toNat, by omega⟩
  by_cases h : 0 ≤ a0 ∧ a0 ≤ 4 - (n : Int) % 2 ∧ 0 < n ∧ l.length ≤ 48
  · obtain ⟨a, rfl⟩ : ∃ a : Nat, a0 = a := ⟨a0.toNat, by omega⟩
    exact Sup.input_in W a n (by omega) (by omega) l h.2.2.2 (by omega)
  · exact Sup.input_out W a0 h0.1 h0.2 n (by omega) l (by omega) h
end Go.Proofs.Ytfacifhlcaghiaa.superInput
