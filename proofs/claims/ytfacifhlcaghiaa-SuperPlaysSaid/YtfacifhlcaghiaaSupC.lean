/- Contracts of layer 5 (super): a number as eight bytes and back; a sector's word. -/
import Derived.Test.YtfacifhlcaghiaaDskL
import Derived.Test.YtfacifhlcaghiaaNumC3
import Derived.Lib.MinMax
namespace Go.Proofs.Ytfacifhlcaghiaa.Sup
open Go Go.RowKit
open Go.Proofs.Ytfacifhlcaghiaa.Gen
open Go.Proofs.Ytfacifhlcaghiaa.Own
open Go.Proofs.Ytfacifhlcaghiaa.RowK
open Go.Proofs.Ytfacifhlcaghiaa.Num
open Go.Proofs.Ytfacifhlcaghiaa.NumC
open Go.Proofs.Ytfacifhlcaghiaa.Dsk
set_option linter.unusedVariables false
set_option linter.unusedSimpArgs false
/-- A number as eight bytes. -/
def e8 (n : Nat) : Sec := bigs n 8
theorem e8_len (n : Nat) : (e8 n).length = 8 := bigs_length n 8
theorem value_e8 {n : Nat} (h : n < 18446744073709551616) : value (e8 n) = n := by
  unfold e8
  rw [value_bigs]
  exact Nat.mod_eq_of_lt h
/-- The number of the first eight bytes. -/
def n8 (s : Sec) : Nat := value (s.take 8)
theorem n8_lt (s : Sec) : n8 s < 18446744073709551616 := by
  have h1 := value_lt (s.take 8)
  have h2 : (s.take 8).length ≤ 8 := by rw [List.length_take]; omega
  have h3 : 256 ^ (s.take 8).length ≤ 256 ^ 8 := Nat.pow_le_pow_right (by decide) h2
  unfold n8
  omega
theorem n8_e8 {n : Nat} (h : n < 18446744073709551616) (t : Sec) : n8 (e8 n ++ t) = n := by
  unfold n8
  rw [List.take_left' (e8_len n), value_e8 h]
set_option maxRecDepth 20000 in
set_option maxHeartbeats 2000000 in
theorem eighth_any (s : Sec) (hs : 8 ≤ s.length) (hs2 : s.length ≤ 9223372036854775807) (w : World) : Calls Try.prog 55 #[.string ⟨s.toArray⟩] w fun e w' => e = .returned (.int .u64 (n8 s)) ∧ Below w.heap.size w w' := by
  have x1 : (⟨s.toArray⟩ : ByteArray).extract 0 8 = ⟨(s.take 8).toArray⟩ := quiet_extract s 0 8
  unfold n8
  have hl8 : (s.take 8).length = 8 := by rw [List.length_take]; omega
  generalize s.take 8 = l at x1 hl8
  have hconv := Lib.run_convert_string_bytes (P := Try.prog) w 9 54 5 ⟨l.toArray⟩ Try.underlying9 Try.underlying54 Try.underlying5
  have hbel := conv_below w 5 ⟨l.toArray⟩
  have hcells := Lib.bytesWorld_cell w 5 ⟨l.toArray⟩
  rw [size_mk, hl8] at hconv hcells
  generalize Lib.bytesWorld w 5 ⟨l.toArray⟩ = w1 at hconv hbel hcells
  generalize grownCap w 8 0 5 = cap at hconv
  obtain ⟨ad, had⟩ : ∃ ad : Addr, ad = ⟨w.heap.size, 0, none⟩ := ⟨_, rfl⟩
  have hcells : ∀ k, k < l.length → w1.cell? (ad.add k) = some (.int .u8 ((l[k]?.getD 0).toNat : Int)) := fun k hk => by
    have := hcells k (by omega)
    rw [had]
    have e : (⟨w.heap.size, 0, none⟩ : Addr).add k = ⟨w.heap.size, k, none⟩ := by
      cases k with
      | zero => rfl
      | succ k => simp [Addr.add]
    rw [e]
    simpa [List.getD] using this
  rw [← had] at hconv
  clear had
  have i0 : (8 : Int) ≤ (s.length : Int) := by omega
  go_enter Try.func55, Try.ntmps55
  go_wp2_with fail
  go_loop [3, 10] (fun a c => ∃ m k : Nat, a = .int .u64 m ∧ c = .int .i64 k ∧ k ≤ 8 ∧ Hid (m = value (l.take k))) (fun _ c => 8 - (intOf c).toNat)
  case atStart => exact ⟨0, 0, rfl, rfl, by omega, rfl⟩
  case round =>
    obtain ⟨m, k, rfl, rfl, hk, H⟩ := hrel
    by_cases hlt : k < 8
    · have hkl : k < l.length := by omega
      have hc := hcells k hkl
      have hm := value_take_lt l k hkl (by omega)
      rw [← H.out] at hm
      have hv := value_take l k hkl
      rw [← H.out] at hv
      have hg : l[k]?.getD 0 = l[k] := by simp [hkl]
      rw [hg] at hc
      have hbl := UInt8.toNat_lt l[k]
      have HV := Lib.hid hv
      have HO := Lib.hid (or_byte m l[k].toNat hm hbl)
      clear hv H hg
      go_wp2_with fail
      refine ⟨⟨m * 256 + l[k].toNat, k + 1, ?_, by go_num, by omega, HV.out.symm⟩, by simp [intOf]; omega⟩
      rw [show (m : Int) * 256 = ((m * 256 : Nat) : Int) by omega, HO.out]
    · obtain rfl : k = 8 := by omega
      go_wp2_with fail
      go_ret
      exact ⟨ret_int (by rw [H.out, List.take_of_length_le (by omega)]), hbel⟩
/-- From a world behind w on. -/
theorem eighth_b (w : World) : ∀ (t : Sec) (w' : World), 8 ≤ t.length → t.length ≤ 9223372036854775807 → Below w.heap.size w w' → Calls Try.prog 55 #[.string ⟨t.toArray⟩] w' fun e w'' => e = .returned (.int .u64 (n8 t)) ∧ Below w.heap.size w w'' := fun t w' h1 h2 h3 => by
  refine (eighth_any t h1 h2 w').mono ?_
  rintro e w'' ⟨rfl, b⟩
  exact ⟨rfl, thenB h3 b⟩
set_option maxRecDepth 20000 in
set_option maxHeartbeats 2000000 in
theorem numbers_any (s : Sec) (hs : s.length = 64) (w : World) : Calls Try.prog 69 #[.string ⟨s.toArray⟩] w fun e w' => e = .returned (.tuple #[.int .u64 (n8 s), .int .u64 (n8 (s.drop 32))]) ∧ Below w.heap.size w w' := by
  have x1 : (⟨s.toArray⟩ : ByteArray).extract 32 64 = ⟨(s.drop 32).toArray⟩ := by
    rw [quiet_extract, List.take_of_length_le (by rw [List.length_drop]; omega)]
  have l1 : 8 ≤ s.length := by omega
  have l2 : s.length ≤ 9223372036854775807 := by omega
  have l3 : 8 ≤ (s.drop 32).length := by rw [List.length_drop]; omega
  have l4 : (s.drop 32).length ≤ 9223372036854775807 := by rw [List.length_drop]; omega
  have HE := Lib.hid (eighth_b w)
  go_enter Try.func69, Try.ntmps69
  go_wp2_with fail
  go_region_held3 (fun w' => Below w.heap.size w w') (first | exact (Below.refl _ _).drew | assumption)
    (first | (go_at_call 55; refine (HE.out _ _ (by assumption) (by assumption) (by assumption)).mono ?_; rintro e w3 ⟨rfl, b3⟩))
  rename_i hHeld
  go_wp2_with fail
  go_ret2
  exact ⟨rfl, hHeld⟩
theorem numbers_no (s : Sec) (hs : s.length ≠ 64) (w : World) : Calls Try.prog 69 #[.string ⟨s.toArray⟩] w fun e w' => e = .returned (.tuple #[.int .u64 0, .int .u64 0]) ∧ w = w' := by
  have h : ((s.length : Int) == 64) = false := by simp; omega
  have h' : ((s.length : Int) != 64) = true := by simp; omega
  go_enter Try.func69, Try.ntmps69
  go_wp2_with fail
  go_ret2
  exact ⟨rfl, rfl⟩
/-! ### what a sector says -/
/-- The word with noughts behind it. -/
def padW (t : Sec) : Sec := t ++ List.replicate (48 - t.length) 0
theorem padW_len {t : Sec} (h : t.length ≤ 48) : (padW t).length = 48 := by unfold padW; rw [List.length_append, List.length_replicate]; omega
/-- A sector of a word. -/
def putL (n : Nat) (t : Sec) : Sec := if 48 < t.length ∨ n = 0 then [] else e8 n ++ (padW t).take 24 ++ e8 n ++ (padW t).drop 24
/-- What a sector says. -/
def getS (s : Sec) : Nat × Sec × Bool :=
  if s.length = 64 then (if n8 s = 0 ∨ n8 s ≠ n8 (s.drop 32) then (0, [], false) else (n8 s, (s.take 32).drop 8 ++ (s.drop 32).drop 8, true)) else (0, [], false)
theorem putL_len {n : Nat} {t : Sec} (h0 : n ≠ 0) (h : t.length ≤ 48) : (putL n t).length = 64 := by
  unfold putL
  rw [if_neg (by omega)]
  have := padW_len h
  simp only [List.length_append, List.length_take, List.length_drop, e8_len]
  omega
theorem putL_front {n : Nat} {t : Sec} (h0 : n ≠ 0) (h : t.length ≤ 48) : (putL n t).take 32 = e8 n ++ (padW t).take 24 ∧ (putL n t).drop 32 = e8 n ++ (padW t).drop 24 := by
  unfold putL
  rw [if_neg (by omega)]
  have := padW_len h
  have hl : (e8 n ++ (padW t).take 24).length = 32 := by rw [List.length_append, List.length_take, e8_len]; omega
  rw [List.append_assoc]
  exact ⟨List.take_left' hl, List.drop_left' hl⟩
theorem n8_take (s : Sec) : n8 (s.take 32) = n8 s := by unfold n8; rw [List.take_take]; rfl
theorem n8_putL {n : Nat} {t : Sec} (h0 : n ≠ 0) (hn : n < 18446744073709551616) (h : t.length ≤ 48) : n8 (putL n t) = n ∧ n8 ((putL n t).drop 32) = n := by
  rw [← n8_take, (putL_front h0 h).1, (putL_front h0 h).2, n8_e8 hn, n8_e8 hn]
  exact ⟨rfl, rfl⟩
theorem get_put {n : Nat} {t : Sec} (h0 : n ≠ 0) (hn : n < 18446744073709551616) (h : t.length ≤ 48) : getS (putL n t) = (n, padW t, true) := by
  unfold getS
  have h8 := n8_putL h0 hn h
  rw [if_pos (putL_len h0 h), h8.1, h8.2, if_neg (by simp [h0]), (putL_front h0 h).1, (putL_front h0 h).2, List.drop_left' (e8_len n), List.drop_left' (e8_len n), List.take_append_drop]
set_option maxRecDepth 20000 in
set_option maxHeartbeats 2000000 in
theorem get_any (s : Sec) (hl : s.length ≤ 9223372036854775807) (w : World) : Calls Try.prog 31 #[.string ⟨s.toArray⟩] w fun e w' => e = .returned (.tuple #[.int .u64 (getS s).1, .string ⟨(getS s).2.1.toArray⟩, .bool (getS s).2.2]) ∧ Below w.heap.size w w' := by
  by_cases hs : s.length = 64
  · have x1 : (⟨s.toArray⟩ : ByteArray).extract 0 32 = ⟨(s.take 32).toArray⟩ := quiet_extract s 0 32
    have x2 : (⟨s.toArray⟩ : ByteArray).extract 32 64 = ⟨(s.drop 32).toArray⟩ := by
      rw [quiet_extract, List.take_of_length_le (by rw [List.length_drop]; omega)]
    have hg : getS s = if n8 s = 0 ∨ n8 s ≠ n8 (s.drop 32) then (0, [], false) else (n8 s, (s.take 32).drop 8 ++ (s.drop 32).drop 8, true) := if_pos hs
    have ha : (s.take 32).length = 32 := by rw [List.length_take]; omega
    have hb : (s.drop 32).length = 32 := by rw [List.length_drop]; omega
    have hna := n8_take s
    have y1 : (⟨(s.take 32).toArray⟩ : ByteArray).extract 8 32 = ⟨((s.take 32).drop 8).toArray⟩ := by
      rw [quiet_extract, List.take_of_length_le (by rw [List.length_drop, ha]; omega)]
    have y2 : (⟨(s.drop 32).toArray⟩ : ByteArray).extract 8 32 = ⟨((s.drop 32).drop 8).toArray⟩ := by
      rw [quiet_extract, List.take_of_length_le (by rw [List.length_drop, hb]; omega)]
    have z1 := str_add ((s.take 32).drop 8) ((s.drop 32).drop 8)
    rw [hg]
    rw [← hna] at hg ⊢
    generalize s.take 32 = a at x1 ha y1 z1 hg ⊢
    generalize s.drop 32 = b at x2 hb y2 z1 hg ⊢
    have h1 := fun w => eighth_any a (by omega) (by omega) w
    have h2 := fun w => eighth_any b (by omega) (by omega) w
    have q1 : ¬ 9223372036854775807 < (a.drop 8).length + (b.drop 8).length := by rw [List.length_drop, List.length_drop]; omega
    clear hg hna
    generalize n8 a = p at h1 ⊢
    generalize n8 b = q at h2 ⊢
    have H1 := Lib.hid h1
    have H2 := Lib.hid h2
    have HA := Lib.hid ha
    have HB := Lib.hid hb
    clear h1 h2
    by_cases hp : p = 0
    · subst hp
      rw [if_pos (.inl rfl)]
      go_enter Try.func31, Try.ntmps31
      go_wp2_with fail
      go_quiet (fail)
      go_wp2_with fail
      refine (H1.out _).mono ?_; rintro e w1 ⟨rfl, b1⟩
      go_wp2_with fail
      exact bodyPost_ret (v := .tuple #[.int .u64 0, .string ⟨#[]⟩, .bool false]) (by simp [results, Try.results31, go_sem]) rfl ⟨rfl, (drewB w _).trans (b1.mono (by simp))⟩
    · have hp0 : ((p : Int) == 0) = false := by simp; omega
      by_cases hpq : p = q
      · subst hpq
        rw [if_neg (by simp [hp])]
        have hpp : ((p : Int) != (p : Int)) = false := by simp
        clear hp
        go_enter Try.func31, Try.ntmps31
        go_wp2_with fail
        go_quiet (fail)
        go_wp2_with fail
        refine (H1.out _).mono ?_; rintro e w1 ⟨rfl, b1⟩
        have hb1 := (drewB w _).trans (b1.mono (by simp))
        clear b1
        go_wp2_with fail
        refine (H2.out _).mono ?_; rintro e w2 ⟨rfl, b2⟩
        have hb2 := hb1.trans (b2.mono hb1.size)
        clear b2 hb1
        have ha := HA.out
        have hb := HB.out
        go_wp2_with fail
        go_quiet (fail)
        go_wp2_with fail
        exact bodyPost_ret (v := .tuple #[.int .u64 p, .string ⟨(a.drop 8 ++ b.drop 8).toArray⟩, .bool true]) (by simp [results, Try.results31, go_sem]) rfl ⟨rfl, bN hb2 _⟩
      · rw [if_pos (.inr hpq)]
        have hpp : ((p : Int) != (q : Int)) = true := by simp; omega
        clear hp hpq
        go_enter Try.func31, Try.ntmps31
        go_wp2_with fail
        go_quiet (fail)
        go_wp2_with fail
        refine (H1.out _).mono ?_; rintro e w1 ⟨rfl, b1⟩
        have hb1 := (drewB w _).trans (b1.mono (by simp))
        clear b1
        go_wp2_with fail
        refine (H2.out _).mono ?_; rintro e w2 ⟨rfl, b2⟩
        have hb2 := hb1.trans (b2.mono hb1.size)
        clear b2 hb1
        go_wp2_with fail
        exact bodyPost_ret (v := .tuple #[.int .u64 0, .string ⟨#[]⟩, .bool false]) (by simp [results, Try.results31, go_sem]) rfl ⟨rfl, hb2⟩
  · have hg : getS s = (0, [], false) := if_neg hs
    have h' : ((s.length : Int) != 64) = true := by simp; omega
    rw [hg]
    clear hg hs
    go_enter Try.func31, Try.ntmps31
    go_wp2_with fail
    exact bodyPost_ret (v := .tuple #[.int .u64 0, .string ⟨#[]⟩, .bool false]) (by simp [results, Try.results31, go_sem]) rfl ⟨rfl, Below.refl _ _⟩
/-! ### a number as bytes -/
/-- The cells of so many bytes of a number, from behind. -/
def EC (w : World) (g n k : Nat) : Prop := (∀ j, j < 8 → w.cell? ⟨g, j, none⟩ = some (.int .u8 (if 8 ≤ j + k then ((n / 256 ^ (7 - j) % 256 : Nat) : Int) else 0))) ∧ ∀ j, w.frozen? ⟨g, j, none⟩ = false
theorem EC.set {w : World} {g n k : Nat} (h : EC w g n k) (hk : k < 8) : EC (w.setCell ⟨g, 7 - k, none⟩ (.int .u8 ((n / 256 ^ k % 256 : Nat) : Int))) g n (k + 1) := by
  refine ⟨fun j hj => ?_, fun j => by rw [World.frozen?_setCell]; exact h.2 j⟩
  rw [cell_set (h.1 j hj)]
  by_cases hjk : j = 7 - k
  · subst hjk
    rw [if_pos rfl, if_pos (by omega), show 7 - (7 - k) = k by omega]
  · rw [if_neg hjk]
    by_cases hlt : 8 ≤ j + k
    · rw [if_pos hlt, if_pos (by omega)]
    · rw [if_neg hlt, if_neg (by omega)]
theorem bigs_get (n : Nat) : ∀ (w j : Nat) (hj : j < w), (bigs n w)[j]? = some (UInt8.ofNat (n / 256 ^ (w - 1 - j) % 256))
  | 0, j, hj => by omega
  | w + 1, 0, _ => by rw [bigs]; simp
  | w + 1, j + 1, hj => by
    rw [bigs, List.getElem?_cons_succ, bigs_get n w j (by omega), show w + 1 - 1 - (j + 1) = w - 1 - j by omega]
set_option maxRecDepth 20000 in
set_option maxHeartbeats 4000000 in
theorem eight_any (n : Nat) (hn : n < 18446744073709551616) (w : World) : Calls Try.prog 54 #[.int .u64 n] w fun e w' => e = .returned (.string ⟨(e8 n).toArray⟩) ∧ Below w.heap.size w w' := by
  have hr0 : EC (w.alloc (.cells #[.int .u8 0, .int .u8 0, .int .u8 0, .int .u8 0, .int .u8 0, .int .u8 0, .int .u8 0, .int .u8 0] 115)) w.heap.size n 0 := by
    refine ⟨fun j hj => ?_, fun j => (Blk.fresh w _ _).frozen j⟩
    rw [(Blk.fresh w _ _).cell j, if_neg (by omega)]
    rcases (by omega : j = 0 ∨ j = 1 ∨ j = 2 ∨ j = 3 ∨ j = 4 ∨ j = 5 ∨ j = 6 ∨ j = 7) with rfl | rfl | rfl | rfl | rfl | rfl | rfl | rfl <;> rfl
  have hb0 := (Below.refl w.heap.size w).alloc (Nat.le_refl _) (.cells #[.int .u8 0, .int .u8 0, .int .u8 0, .int .u8 0, .int .u8 0, .int .u8 0, .int .u8 0, .int .u8 0] 115)
  go_enter Try.func54, Try.ntmps54
  go_wp2_with fail
  go_loopw [5] (fun iv wr => ∃ k : Nat, iv = .int .i64 k ∧ k ≤ 8 ∧ EC wr w.heap.size n k ∧ Below w.heap.size w wr) (fun iv _ => 8 - (intOf iv).toNat)
  case atStart => exact ⟨0, rfl, by omega, hr0, hb0⟩
  case round =>
    obtain ⟨k, rfl, hk, hrow, hb⟩ := hrel
    by_cases hlt : k < 8
    · obtain ⟨q, hq⟩ : ∃ q : Nat, q = 7 - k := ⟨_, rfl⟩
      have hc := hrow.1 q (by omega)
      have hf := hrow.2 q
      have hset := hrow.set hlt
      rw [← hq] at hset
      have e7 : (7 : Int) - (k : Int) = (q : Int) := by omega
      have HQ := Lib.hid hq
      have hq7 : q < 8 := by omega
      have i0 : (0 : Int) ≤ (q : Int) := by omega
      have i1 : (q : Int) < 8 := by omega
      clear hq hr0 hb0
      go_wp2_with fail
      rw [byte_eq n k]
      go_roundw
      case rel => exact ⟨k + 1, by go_num, by omega, hset, hb.setCell (Nat.le_refl _) _⟩
      case measure => simp [intOf]; omega
    · obtain rfl : k = 8 := by omega
      have hcv := conv_bytes (e8 n) wr w.heap.size (fun j hj0 => by
        have hj : j < 8 := by rw [e8_len] at hj0; exact hj0
        have hg : (e8 n)[j]? = some (UInt8.ofNat (n / 256 ^ (8 - 1 - j) % 256)) := bigs_get n 8 j hj
        rw [List.getElem?_eq_getElem hj0] at hg
        injection hg with hg
        rw [hg, hrow.1 j hj, if_pos (by omega), show 8 - 1 - j = 7 - j by omega]
        simp)
      rw [e8_len] at hcv
      go_wp2_with fail
      go_ret
      exact ⟨rfl, hb⟩
theorem zero_any (k : Nat) (hk : k ≤ 48) (w : World) : Calls Try.prog 53 #[.string ⟨#[0]⟩, .int .i64 k] w fun e w' => e = .returned (.string ⟨(List.replicate k (0 : UInt8)).toArray⟩) ∧ Below w.heap.size w w' := by
  have h := Try.strings_Repeat ⟨#[0]⟩ k w (by omega) (by show 1 * k ≤ _; omega)
  have e : Lib.repeatL (⟨#[0]⟩ : ByteArray).data.toList k = List.replicate k (0 : UInt8) := by
    show Lib.repeatL [0] k = _
    clear h hk
    induction k with
    | zero => rfl
    | succ k ih => rw [List.replicate_succ, ← ih]; rfl
  rw [e] at h
  exact h
/-- From a world behind w on. -/
theorem eight_b (n : Nat) (hn : n < 18446744073709551616) (w : World) : ∀ w', Below w.heap.size w w' → Calls Try.prog 54 #[.int .u64 n] w' fun e w'' => e = .returned (.string ⟨(e8 n).toArray⟩) ∧ Below w.heap.size w w'' := fun w' h => by
  refine (eight_any n hn w').mono ?_
  rintro e w'' ⟨rfl, b⟩
  exact ⟨rfl, thenB h b⟩
set_option maxRecDepth 20000 in
set_option maxHeartbeats 4000000 in
theorem put_in (n : Nat) (h0 : n ≠ 0) (hn : n < 18446744073709551616) (t : Sec) (ht : t.length ≤ 48) (w : World) : Calls Try.prog 30 #[.int .u64 n, .string ⟨t.toArray⟩] w fun e w' => e = .returned (.string ⟨(putL n t).toArray⟩) ∧ Below w.heap.size w w' := by
  have hpl : putL n t = e8 n ++ (padW t).take 24 ++ e8 n ++ (padW t).drop 24 := if_neg (by omega)
  have hz := zero_any (48 - t.length) (by omega) w
  have hsub : (48 : Int) - (t.length : Int) = ((48 - t.length : Nat) : Int) := by omega
  have z0 := str_add t (List.replicate (48 - t.length) 0)
  rw [show t ++ List.replicate (48 - t.length) 0 = padW t from rfl] at z0
  have hq : ¬ 9223372036854775807 < t.length + (List.replicate (48 - t.length) (0 : UInt8)).length := by rw [List.length_replicate]; omega
  have hpw := padW_len ht
  have hzl : (List.replicate (48 - t.length) (0 : UInt8)).length = 48 - t.length := List.length_replicate
  generalize List.replicate (48 - t.length) (0 : UInt8) = zs at hz z0 hq hzl
  have d1 : decide (48 < (t.length : Int)) = false := decide_eq_false (by omega)
  have d2 : ((n : Int) == 0) = false := by simp; omega
  generalize padW t = p at hpl z0 hpw
  have x1 : (⟨p.toArray⟩ : ByteArray).extract 0 24 = ⟨(p.take 24).toArray⟩ := quiet_extract p 0 24
  have x2 : (⟨p.toArray⟩ : ByteArray).extract 24 48 = ⟨(p.drop 24).toArray⟩ := by
    rw [quiet_extract, List.take_of_length_le (by rw [List.length_drop]; omega)]
  have la : (p.take 24).length = 24 := by rw [List.length_take]; omega
  have lb : (p.drop 24).length = 24 := by rw [List.length_drop]; omega
  have le := e8_len n
  have hE := eight_b n hn w
  generalize p.take 24 = a at hpl x1 la
  generalize p.drop 24 = b at hpl x2 lb
  generalize e8 n = E at hpl hE le
  have z1 := str_add E a
  have z2 := str_add (E ++ a) E
  have z3 := str_add (E ++ a ++ E) b
  rw [← hpl] at z3
  have l1 : (E ++ a).length = 32 := by rw [List.length_append]; omega
  have l2 : (E ++ a ++ E).length = 40 := by rw [List.length_append, l1]; omega
  generalize E ++ a ++ E = u2 at z2 z3 l2
  generalize E ++ a = u1 at z1 z2 l1
  have HZ := Lib.hid hz
  have HE := Lib.hid hE
  clear hz hpl hE
  go_enter Try.func30, Try.ntmps30
  go_wp2_with fail
  refine HZ.out.mono ?_; rintro e w1 ⟨rfl, b1⟩
  clear hzl
  go_wp2_with fail
  go_region_held3 (fun w' => Below w.heap.size w w') (first | exact b1.drew | assumption)
    (first | (go_at_call 54; refine (HE.out _ (by assumption)).mono ?_; rintro e w3 ⟨rfl, b3⟩))
  rename_i hHeld
  go_wp2_with fail
  go_ret
  exact ⟨rfl, hHeld⟩
theorem put_out (n : Nat) (t : Sec) (ht : t.length ≤ 9223372036854775807) (h : 48 < t.length ∨ n = 0) (w : World) : Calls Try.prog 30 #[.int .u64 n, .string ⟨t.toArray⟩] w fun e w' => e = .returned (.string ⟨(putL n t).toArray⟩) ∧ w = w' := by
  have hpl : putL n t = [] := if_pos h
  rw [hpl]
  by_cases h1 : 48 < t.length
  · have d1 : decide (48 < (t.length : Int)) = true := decide_eq_true (by omega)
    clear h hpl
    go_enter Try.func30, Try.ntmps30
    go_wp2_with fail
    go_ret
    exact ⟨rfl, rfl⟩
  · have d1 : decide (48 < (t.length : Int)) = false := decide_eq_false (by omega)
    have d2 : ((n : Int) == 0) = true := by simp; omega
    clear h hpl
    go_enter Try.func30, Try.ntmps30
    go_wp2_with fail
    go_ret
    exact ⟨rfl, rfl⟩
theorem put_any (n : Nat) (hn : n < 18446744073709551616) (t : Sec) (ht : t.length ≤ 9223372036854775807) (w : World) : Calls Try.prog 30 #[.int .u64 n, .string ⟨t.toArray⟩] w fun e w' => e = .returned (.string ⟨(putL n t).toArray⟩) ∧ Below w.heap.size w w' := by
  by_cases h : 48 < t.length ∨ n = 0
  · exact (put_out n t ht h w).mono fun e w' ⟨he, hw⟩ => ⟨he, hw ▸ Below.refl _ _⟩
  · exact put_in n (by omega) hn t (by omega) w
theorem putL_empty {n : Nat} {t : Sec} : putL n t = [] ↔ (48 < t.length ∨ n = 0) := by
  constructor
  · intro h
    by_cases hc : 48 < t.length ∨ n = 0
    · exact hc
    · have := putL_len (n := n) (t := t) (by omega) (by omega)
      rw [h] at this
      cases this
  · exact fun h => if_pos h
theorem made48 (w : World) : (Instr.makeSlice 54 (.int .i64 48) (.int .i64 48)).run Try.prog w = .ok (.slice (some ⟨w.heap.size, 0, none⟩) 48 48) (w.alloc (.cells (Array.replicate 48 (.int .u8 0)) 5)) := make_bytes 48 (by omega) w
theorem word_eq2 (t : Sec) (h : t.length ≤ 48) : (t ++ List.replicate 48 0).take 48 = padW t := by
  unfold padW
  rw [List.take_append, List.take_of_length_le h, List.take_replicate, Nat.min_eq_left (by omega)]
set_option maxRecDepth 20000 in
set_option maxHeartbeats 4000000 in
theorem word5_any (t : Sec) (ht : t.length ≤ 48) (w : World) : Calls Try.prog 33 #[.string ⟨t.toArray⟩] w fun e w' => e = .returned (.string ⟨(padW t).toArray⟩) ∧ Below w.heap.size w w' := by
  have hmk := made48 w
  have hcv := conv_bytes (List.replicate 48 (0 : UInt8)) (w.alloc (.cells (Array.replicate 48 (.int .u8 0)) 5)) w.heap.size (fun j hj => by
    rw [List.length_replicate] at hj
    rw [(Blk.fresh w _ _).cell j, List.getElem_replicate]
    simp [hj])
  have hb := (Below.refl w.heap.size w).alloc (Nat.le_refl _) (.cells (Array.replicate 48 (.int .u8 0)) 5)
  rw [List.length_replicate] at hcv
  generalize w.alloc (.cells (Array.replicate 48 (.int .u8 0)) 5) = w1 at hmk hcv hb
  have z0 := str_add t (List.replicate 48 (0 : UInt8))
  have hzl : (List.replicate 48 (0 : UInt8)).length = 48 := List.length_replicate
  have hw := word_eq2 t ht
  generalize List.replicate 48 (0 : UInt8) = zs at hcv z0 hzl hw
  have hl : (t ++ zs).length = t.length + 48 := by rw [List.length_append, hzl]
  generalize t ++ zs = u at z0 hw hl
  have x1 : (⟨u.toArray⟩ : ByteArray).extract 0 48 = ⟨(u.take 48).toArray⟩ := quiet_extract u 0 48
  rw [hw] at x1
  have hq : ¬ 9223372036854775807 < t.length + zs.length := by omega
  have i0 : (48 : Int) ≤ (u.length : Int) := by omega
  have HW := Lib.hid hw
  have HL := Lib.hid hl
  clear hw hl hzl
  go_enter Try.func33, Try.ntmps33
  go_wp2_with fail
  go_ret
  exact ⟨rfl, hb⟩
end Go.Proofs.Ytfacifhlcaghiaa.Sup
