/- Contracts of layer 5 (super): laid, the next number; awake. -/
import Derived.Test.YtfacifhlcaghiaaSupD
namespace Go.Proofs.Ytfacifhlcaghiaa.Sup
open Go Go.RowKit
open Go.Proofs.Ytfacifhlcaghiaa.Gen
open Go.Proofs.Ytfacifhlcaghiaa.Own
open Go.Proofs.Ytfacifhlcaghiaa.RowK
open Go.Proofs.Ytfacifhlcaghiaa.Num
open Go.Proofs.Ytfacifhlcaghiaa.NumC
open Go.Proofs.Ytfacifhlcaghiaa.Dsk
set_option linter.unusedVariables false
set_option linter.unusedSimpArgs false
theorem padL_full {s : Sec} (h : s.length = 64) : padL s = s := by
  unfold padL blankL
  rw [List.drop_of_length_le (by rw [List.length_replicate]; omega), List.append_nil]
set_option maxRecDepth 20000 in
set_option maxHeartbeats 4000000 in
theorem swrite_in (W : World) (B : Nat) (h : Hd) (S : List Sec) (L : List Wr) (d : IsDk W B h S L) (hL : L.length + 1 ≤ 1000) (a n : Nat) (h0 : n ≠ 0) (hn : n < 18446744073709551616) (t : Sec) (ht : t.length ≤ 48) (ha : a + n % 2 < S.length) :
    Calls Try.prog 34 #[ptr h, .int .i64 a, .int .u64 n, .string ⟨t.toArray⟩] W (DkPost W B h S (L ++ [⟨(a : Int) + (n : Int) % 2, putL n t⟩]) (.int .i64 0)) := by
  have hp := put_any n hn t (by omega) W
  have hpl := putL_len h0 ht
  have hne : putL n t ≠ [] := fun e => by rw [e] at hpl; cases hpl
  have hS := d.ok.n
  generalize putL n t = x at hp hpl hne ⊢
  have hwr := fun w (hb : Below W.heap.size W w) => write_in w B h S L (d.b hb) hL (a + n % 2) ha x (by omega)
  rw [padL_full hpl, show ((a + n % 2 : Nat) : Int) = (a : Int) + (n : Int) % 2 by omega] at hwr
  unfold DkPost at hwr
  have e1 : (x == []) = false := by simpa using hne
  have e2 : x.isEmpty = false := by simpa using hne
  have d1 : decide ((a : Int) < 0) = false := decide_eq_false (by omega)
  have d2 : decide (4096 < (a : Int)) = false := decide_eq_false (by omega)
  have d3 : decide (4096 < a) = false := decide_eq_false (by omega)
  have hm : (n : Int).tmod 2 = ((n % 2 : Nat) : Int) := by rw [Int.tmod_eq_emod_of_nonneg (by omega)]; omega
  have hlt2 : n % 2 < 2 := Nat.mod_lt _ (by decide)
  have HP := Lib.hid hp
  have HWR := Lib.hid hwr
  unfold ptr at HWR ⊢
  have HPL := Lib.hid hpl
  clear hp hwr hpl
  go_enter Try.func34, Try.ntmps34
  go_wp2_with fail
  refine HP.out.mono ?_; rintro e w1 ⟨rfl, b1⟩
  go_wp2_with fail
  refine (HWR.out _ b1).mono ?_; rintro e w2 ⟨rfl, vA, vB, d2, k2, m2⟩
  go_wp2_with fail
  go_ret
  exact ⟨rfl, vA, vB, d2, (KeptD.of_below h b1).then k2, fun k hk => (m2 k hk).imp id (fun h => Nat.le_trans b1.size h)⟩
theorem swrite_out (W : World) (B : Nat) (p : Option Hd) (S : List Sec) (L : List Wr) (d : DkO W B p S L) (a : Int) (h0 : -9223372036854775808 ≤ a) (h1 : a ≤ 9223372036854775807) (n : Nat) (hn : n < 18446744073709551616) (t : Sec) (ht : t.length ≤ 9223372036854775807)
    (hno : 48 < t.length ∨ n = 0 ∨ a < 0 ∨ 4096 < a ∨ (S.length : Int) ≤ a + n % 2) :
    Calls Try.prog 34 #[ptrO p, .int .i64 a, .int .u64 n, .string ⟨t.toArray⟩] W fun e w' => e = .returned (.int .i64 1) ∧ Below W.heap.size W w' := by
  have hp := put_any n hn t ht W
  have hwr : ¬ (48 < t.length ∨ n = 0 ∨ a < 0 ∨ 4096 < a) → ∀ w, Below W.heap.size W w → Calls Try.prog 22 #[ptrO p, .int .i64 (a + (n : Int) % 2), .string ⟨(putL n t).toArray⟩] w fun e w' => e = .returned (.int .i64 1) ∧ w = w' := fun hh w hb => by
    have hpl := putL_len (n := n) (t := t) (by omega) (by omega)
    exact write_out w p B S L (a + (n : Int) % 2) (putL n t) (by omega) (fun q e => by subst e; exact ⟨IsDk.b d hb, .inl (by omega)⟩)
  unfold ptrO at hwr ⊢
  generalize p.map (fun h => (⟨h.g, 0, none⟩ : Addr)) = P at hwr ⊢
  have HP := Lib.hid hp
  have HWR := Lib.hid hwr
  have hlt2 : n % 2 < 2 := Nat.mod_lt _ (by decide)
  clear hp hwr d
  by_cases hx : putL n t = []
  · have e2 : (putL n t).isEmpty = true := by rw [hx]; rfl
    rw [hx] at HP
    clear HWR hx e2
    go_enter Try.func34, Try.ntmps34
    go_wp2_with fail
    refine HP.out.mono ?_; rintro e w1 ⟨rfl, b1⟩
    go_wp2_with fail
    go_ret
    exact ⟨rfl, b1⟩
  · have hy : ¬ (48 < t.length ∨ n = 0) := fun h => hx (putL_empty.2 h)
    have e1 : (putL n t == []) = false := by simpa using hx
    have e2 : (putL n t).isEmpty = false := by simpa using hx
    by_cases hlo : a < 0
    · have d1 : decide (a < 0) = true := decide_eq_true hlo
      clear HWR hx
      generalize putL n t = x at HP e1 e2
      go_enter Try.func34, Try.ntmps34
      go_wp2_with fail
      refine HP.out.mono ?_; rintro e w1 ⟨rfl, b1⟩
      go_wp2_with fail
      go_ret
      exact ⟨rfl, b1⟩
    · have d1 : decide (a < 0) = false := decide_eq_false hlo
      by_cases hhi : 4096 < a
      · have d2 : decide (4096 < a) = true := decide_eq_true hhi
        clear HWR hx
        generalize putL n t = x at HP e1 e2
        go_enter Try.func34, Try.ntmps34
        go_wp2_with fail
        refine HP.out.mono ?_; rintro e w1 ⟨rfl, b1⟩
        go_wp2_with fail
        go_ret
        exact ⟨rfl, b1⟩
      · have d2 : decide (4096 < a) = false := decide_eq_false hhi
        have HW2 := Lib.hid (HWR.out (by omega))
        clear HWR hx
        generalize putL n t = x at HP HW2 e1 e2
        clear hno hy
        go_enter Try.func34, Try.ntmps34
        go_wp2_with fail
        refine HP.out.mono ?_; rintro e w1 ⟨rfl, b1⟩
        go_wp2_with fail
        refine (HW2.out _ b1).mono ?_; rintro e w2 ⟨rfl, rfl⟩
        go_wp2_with fail
        go_ret
        exact ⟨rfl, b1⟩
theorem run_max3 {P : Program} (w : World) (ts : Array TypeId) (t : TypeId) (k k' k'' : IntKind) (x y z : Int) :
    (Builtin.max_ ts t #[.int k x, .int k' y, .int k'' z]).run P w = .ok (.int k (max (max x y) z)) w := by
  have e1 : (if y > x then y else x) = max x y := by
    rw [Int.max_def]
    split <;> split <;> omega
  have e2 : (if z > max x y then z else max x y) = max (max x y) z := by
    rw [Int.max_def (max x y) z]
    split <;> split <;> omega
  simp [Builtin.max_, Builtin.max2, e1, e2]
/-- What the halves of a sector say. -/
def numS (s : Sec) : Nat × Nat := if s.length = 64 then (n8 s, n8 (s.drop 32)) else (0, 0)
theorem nums_any (s : Sec) (w : World) : Calls Try.prog 69 #[.string ⟨s.toArray⟩] w fun e w' => e = .returned (.tuple #[.int .u64 (numS s).1, .int .u64 (numS s).2]) ∧ Below w.heap.size w w' := by
  unfold numS
  by_cases h : s.length = 64
  · rw [if_pos h]
    exact numbers_any s h w
  · rw [if_neg h]
    exact (numbers_no s h w).mono fun e w' ⟨he, hw⟩ => ⟨he, hw ▸ Below.refl _ _⟩
theorem numS_lt (s : Sec) : (numS s).1 < 18446744073709551616 ∧ (numS s).2 < 18446744073709551616 := by
  unfold numS
  split
  · exact ⟨n8_lt s, n8_lt _⟩
  · exact ⟨by decide, by decide⟩
def bestN (S : List Sec) (L : List Wr) (a : Int) : Nat → Nat
  | 0 => 0
  | i + 1 => max (max (bestN S L a i) (numS (secR S L (a + i))).1) (numS (secR S L (a + i))).2
/-- The next number. -/
def nextN (S : List Sec) (L : List Wr) (a : Int) : Nat :=
  if (readS S L a).2.2 = true ∧ (bestN S L a 2 + 1) % 2 = (readS S L a).1 % 2 then bestN S L a 2 + 2 else bestN S L a 2 + 1
set_option maxRecDepth 20000 in
set_option maxHeartbeats 4000000 in
theorem next_any (w : World) (B : Nat) (p : Option Hd) (S : List Sec) (L : List Wr) (d : DkO w B p S L) (a : Int) (h0 : 0 ≤ a) (h1 : a ≤ 4096) (hb2 : bestN S L a 2 + 2 < 18446744073709551616) :
    Calls Try.prog 41 #[ptrO p, .int .i64 a] w fun e w' => e = .returned (.int .u64 (nextN S L a)) ∧ Below w.heap.size w w' := by
  have hrd := fun w' (hb : Below w.heap.size w w') (a : Int) => read_any w' B p S L (d.b hb) a
  have hsr := fun w' (hb : Below w.heap.size w w') => sread_any w' B p S L (d.b hb) a (by omega) (by omega)
  unfold ptrO at hrd hsr ⊢
  generalize p.map (fun h => (⟨h.g, 0, none⟩ : Addr)) = P at hrd hsr ⊢
  have t1 : decide (a < 0) = false := decide_eq_false (by omega)
  have t2 : decide (4096 < a) = false := decide_eq_false (by omega)
  have HRD := Lib.hid hrd
  have HSR := Lib.hid hsr
  have hmx := fun w ts t x y z => run_max3 (P := Try.prog) w ts t .u64 .u64 .u64 x y z
  clear hrd hsr d
  go_enter Try.func41, Try.ntmps41
  go_wp2_with fail
  go_loopw [5, 21] (fun nv iv wr => ∃ i : Nat, iv = .int .i64 i ∧ i ≤ 2 ∧ (∃ c : Nat, Hid (c = bestN S L a i) ∧ nv = .int .u64 c) ∧ Below w.heap.size w wr) (fun nv iv _ => 2 - (intOf iv).toNat)
  case atStart => exact ⟨0, rfl, by omega, ⟨0, Lib.hid rfl, rfl⟩, Below.refl _ _⟩
  case round =>
    obtain ⟨i, rfl, hi, ⟨c, HC, rfl⟩, hb⟩ := hrel
    by_cases hlt : i < 2
    · have hnm := fun w' => nums_any (secR S L (a + i)) w'
      have hcn : bestN S L a (i + 1) = max (max c (numS (secR S L (a + i))).1) (numS (secR S L (a + i))).2 := by rw [HC.out]; rfl
      have HRDi := Lib.hid (HRD.out wr hb (a + i))
      generalize secR S L (a + i) = s at hnm hcn HRDi
      generalize numS s = g at hnm hcn
      obtain ⟨g1, g2⟩ := g
      simp only at hcn
      have HNM := Lib.hid hnm
      have HCN := Lib.hid hcn
      have hw1 : 0 ≤ a + (i : Int) := by omega
      have hw2 : a + (i : Int) ≤ 5000 := by omega
      clear hnm hcn
      go_wp2_with fail
      refine HRDi.out.mono ?_; rintro e w1 ⟨rfl, b1⟩
      have hb1 := hb.trans (b1.mono hb.size)
      clear b1
      go_wp2_with fail
      refine (HNM.out _).mono ?_; rintro e w2 ⟨rfl, b2⟩
      have hb2' := hb1.trans (b2.mono hb1.size)
      go_wp2_with fail
      go_roundw
      case rel => exact ⟨i + 1, by go_num, by omega, ⟨_, Lib.hid HCN.out.symm, by rw [show ((max (max c g1) g2 : Nat) : Int) = max (c : Int) (max (g1 : Int) (g2 : Int)) by omega]⟩, hb2'⟩
      case measure => simp [intOf]; omega
    · obtain rfl : i = 2 := by omega
      have hc := HC.out
      have hnx : nextN S L a = if (readS S L a).2.2 = true ∧ (c + 1) % 2 = (readS S L a).1 % 2 then c + 2 else c + 1 := by unfold nextN; rw [← hc]
      rw [← hc] at hb2
      have HSRi := Lib.hid (HSR.out wr hb)
      generalize readS S L a = g at hnx HSRi
      obtain ⟨g1, g2, g3⟩ := g
      simp only at hnx
      have hwr : IntKind.u64.wrap ((c : Int) + 1) = ((c + 1 : Nat) : Int) := by rw [IntKind.wrap_u64]; omega
      obtain ⟨x, hx⟩ : ∃ x, x = c + 1 := ⟨_, rfl⟩
      rw [← hx] at hwr hnx
      have hx2 : x + 1 < 18446744073709551616 := by omega
      have hcx : decide (x ≤ c) = false := decide_eq_false (by omega)
      have hcx1 : decide ((x : Int) + 1 ≤ (c : Int)) = false := decide_eq_false (by omega)
      have hcx2 : decide (x + 1 ≤ c) = false := decide_eq_false (by omega)
      have HNX := Lib.hid hnx
      have HX := Lib.hid hx
      clear hc hnx hx HSR HRD HC
      cases g3 with
      | false =>
        go_wp2_with fail
        refine HSRi.out.mono ?_; rintro e w1 ⟨rfl, b1⟩
        have hb1 := hb.trans (b1.mono hb.size)
        clear b1
        go_wp2_with fail
        go_ret
        exact ⟨by show Ending.returned (.int .u64 (x : Int)) = _; rw [HNX.out, if_neg (fun h => by cases h.1)], hb1⟩
      | true =>
        by_cases hpar : x % 2 = g1 % 2
        · have hp1 : ((x : Int) % 2 == (g1 : Int) % 2) = true := by simp; omega
          have hp2 : (x % 2 == g1 % 2) = true := by simp [hpar]
          have HPAR := Lib.hid hpar
          clear hpar
          go_wp2_with fail
          refine HSRi.out.mono ?_; rintro e w1 ⟨rfl, b1⟩
          have hb1 := hb.trans (b1.mono hb.size)
          clear b1
          go_wp2_with fail
          go_ret
          exact ⟨by show Ending.returned (.int .u64 ((x : Int) + 1)) = _; rw [HNX.out, if_pos ⟨trivial, HPAR.out⟩]; have := HX.out; exact ret_int (by omega), hb1⟩
        · have hp1 : ((x : Int) % 2 == (g1 : Int) % 2) = false := by simp; omega
          have hp2 : (x % 2 == g1 % 2) = false := by simp [hpar]
          have HPAR := Lib.hid hpar
          clear hpar
          go_wp2_with fail
          refine HSRi.out.mono ?_; rintro e w1 ⟨rfl, b1⟩
          have hb1 := hb.trans (b1.mono hb.size)
          clear b1
          go_wp2_with fail
          go_ret
          exact ⟨by show Ending.returned (.int .u64 (x : Int)) = _; rw [HNX.out, if_neg (fun h => HPAR.out h.2)], hb1⟩
theorem next_out (w : World) (P : Option Addr) (a : Int) (h : a < 0 ∨ 4096 < a) : Calls Try.prog 41 #[.pointer P, .int .i64 a] w fun e w' => e = .returned (.int .u64 0) ∧ w = w' := by
  by_cases hlo : a < 0
  · have t1 : decide (a < 0) = true := decide_eq_true hlo
    clear h
    go_enter Try.func41, Try.ntmps41
    go_wp2_with fail
    go_ret
    exact ⟨rfl, rfl⟩
  · have t1 : decide (a < 0) = false := decide_eq_false hlo
    have t2 : decide (4096 < a) = true := decide_eq_true (by omega)
    clear h
    go_enter Try.func41, Try.ntmps41
    go_wp2_with fail
    go_ret
    exact ⟨rfl, rfl⟩
end Go.Proofs.Ytfacifhlcaghiaa.Sup
