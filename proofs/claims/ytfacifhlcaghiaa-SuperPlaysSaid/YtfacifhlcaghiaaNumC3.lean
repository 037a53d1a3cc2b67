/- Contracts of a source of bytes (num.Source): what is taken. -/
import Derived.Test.YtfacifhlcaghiaaNumC2
import Derived.Lib.BufferOwn
import Derived.Lib.BufferWrite
import Derived.Lib.ConvBytes
import Derived.Laws.BitsAllLaws
namespace Go.Proofs.Ytfacifhlcaghiaa.NumC
open Go Go.RowKit
open Go.Proofs.Ytfacifhlcaghiaa.Gen
open Go.Proofs.Ytfacifhlcaghiaa.Num
set_option linter.unusedVariables false

theorem grefl (w : World) (row : Option Nat) : w.grownBy w row := ⟨rfl, rfl, rfl, Nat.le_refl _, fun _ _ _ => rfl⟩
/-- A source in block b: these bytes, of which so many were taken. -/
structure Src (w : World) (b : Nat) (all : List UInt8) (r : R) : Prop where
  c0 : w.cell? ⟨b, 0, none⟩ = some (.string ⟨all.toArray⟩)
  c1 : w.cell? ⟨b, 1, none⟩ = some (.int .i64 ((all.length - r.s.length : Nat) : Int))
  c2 : w.cell? ⟨b, 2, none⟩ = some (.int .i64 (r.err : Int))
  f1 : w.frozen? ⟨b, 1, none⟩ = false
  f2 : w.frozen? ⟨b, 2, none⟩ = false
  suf : r.s <:+ all
  ok : r.ok
  len : all.length ≤ 140737488355328
  err : r.err ≤ 1000
theorem Src.lt {w : World} {b : Nat} {all : List UInt8} {r : R} (h : Src w b all r) : b < w.heap.size := World.block_lt_of_cell? w _ h.c0
theorem Src.grown {w w' : World} {b : Nat} {all : List UInt8} {r : R} {row : Option Nat} (h : Src w b all r) (hg : w.grownBy w' row) (hr : some b ≠ row) : Src w' b all r :=
  { h with
    c0 := hg.cell h.c0 hr
    c1 := hg.cell h.c1 hr
    c2 := hg.cell h.c2 hr
    f1 := by rw [World.frozen?_of_block (a := ⟨b, 1, none⟩) (hg.block b h.lt hr)]; exact h.f1
    f2 := by rw [World.frozen?_of_block (a := ⟨b, 2, none⟩) (hg.block b h.lt hr)]; exact h.f2 }
theorem Src.drop {w : World} {b : Nat} {all : List UInt8} {r : R} (h : Src w b all r) : ∃ k, k + r.s.length = all.length ∧ r.s = all.drop k ∧ w.cell? ⟨b, 1, none⟩ = some (.int .i64 (k : Int)) := by
  obtain ⟨t, ht⟩ := h.suf
  have hl : t.length + r.s.length = all.length := by rw [← ht, List.length_append]
  refine ⟨t.length, hl, by rw [← ht, List.drop_left], ?_⟩
  have := h.c1
  rw [show all.length - r.s.length = t.length by omega] at this
  exact this
theorem cell_set {w : World} {b i j : Nat} {u v : Value} (hc : w.cell? ⟨b, i, none⟩ = some u) : (w.setCell ⟨b, j, none⟩ v).cell? ⟨b, i, none⟩ = some (if i = j then v else u) := by
  by_cases hij : i = j
  · subst hij
    rw [World.cell?_setCell_same (h := hc), if_pos rfl]
  · rw [World.cell?_setCell_other (h := fun e => hij (by simpa using (congrArg Addr.off e).symm)), hc, if_neg hij]
theorem Src.setAt {w : World} {b : Nat} {all : List UInt8} {r : R} (h : Src w b all r) (q : R) (hs : q.s <:+ all) (ho : q.ok) (he : q.err = r.err) (k : Nat) (hk : k + q.s.length = all.length) : Src (w.setCell ⟨b, 1, none⟩ (.int .i64 (k : Int))) b all q :=
  { c0 := by simpa using cell_set (j := 1) h.c0
    c1 := by have := cell_set (j := 1) (v := .int .i64 (k : Int)) h.c1; rw [show all.length - q.s.length = k by omega]; simpa using this
    c2 := by rw [he]; simpa using cell_set (j := 1) h.c2
    f1 := by rw [World.frozen?_setCell]; exact h.f1
    f2 := by rw [World.frozen?_setCell]; exact h.f2
    suf := hs
    ok := ho
    len := h.len
    err := by rw [he]; exact h.err }
theorem Src.set {w : World} {b : Nat} {all : List UInt8} {r : R} (h : Src w b all r) (q : R) (hs : q.s = []) (ho : q.ok) (he : q.err ≤ 1000) : Src ((w.setCell ⟨b, 2, none⟩ (.int .i64 (q.err : Int))).setCell ⟨b, 1, none⟩ (.int .i64 (all.length : Int))) b all q := by
  have k1 : Src (w.setCell ⟨b, 2, none⟩ (.int .i64 (q.err : Int))) b all ⟨r.s, q.err⟩ ∨ True := Or.inr trivial
  exact
  { c0 := by simpa using cell_set (j := 1) (cell_set (j := 2) h.c0)
    c1 := by have := cell_set (j := 1) (v := .int .i64 (all.length : Int)) (cell_set (j := 2) (v := .int .i64 (q.err : Int)) h.c1); rw [hs]; simpa using this
    c2 := by have := cell_set (j := 1) (v := .int .i64 (all.length : Int)) (cell_set (j := 2) (v := .int .i64 (q.err : Int)) h.c2); simpa using this
    f1 := by rw [World.frozen?_setCell, World.frozen?_setCell]; exact h.f1
    f2 := by rw [World.frozen?_setCell, World.frozen?_setCell]; exact h.f2
    suf := by rw [hs]; exact List.nil_suffix
    ok := ho
    len := h.len
    err := he }
theorem Src.below {w w' : World} {b : Nat} {all : List UInt8} {r : R} (h : Src w b all r) (hb : Below w.heap.size w w') : Src w' b all r :=
  h.grown (row := none) (Lib.grownBy_below (grefl w none) hb) (by simp)
theorem R.fail_err {r : R} {e : Nat} (h : r.err ≤ 1000) (he : e ≤ 1000) : (r.fail e).err ≤ 1000 := by
  unfold R.fail
  split
  · exact he
  · exact h

set_option maxHeartbeats 1000000 in
theorem wrong_any (w : World) (b : Nat) (all : List UInt8) (r : R) (e : Nat) (he : e ≤ 1000) (h : Src w b all r) :
    Calls Try.prog 64 #[.pointer (some ⟨b, 0, none⟩), .int .i64 e] w fun x w' => x = .returned (.tuple #[]) ∧ Src w' b all (r.fail e) ∧ w.grownBy w' (some b) := by
  obtain ⟨h0, h1, h2, f1, f2, hs, ho, hl, hr⟩ := id h
  have hf : r.err = 0 → e ≠ 0 → r.fail e = ⟨[], e⟩ := fun a b => if_pos ⟨a, b⟩
  have hg : ¬ (r.err = 0 ∧ e ≠ 0) → r.fail e = r := fun a => if_neg a
  have HF := Lib.hid hf
  have HG := Lib.hid hg
  clear hf hg
  go_enter Try.func64, Try.ntmps64
  by_cases c1 : r.err = 0
  · by_cases c2 : e = 0
    · go_wp2_with fail
      (first | refine bodyPost_end (results_none rfl _ _ _) rfl ?_ | refine bodyPost_ret (results_none rfl _ _ _) rfl ?_)
      rw [HG.out (by omega)]
      exact ⟨rfl, h, grefl _ _⟩
    · go_wp2_with fail
      (first | refine bodyPost_end (results_none rfl _ _ _) rfl ?_ | refine bodyPost_ret (results_none rfl _ _ _) rfl ?_)
      rw [HF.out c1 c2]
      exact ⟨rfl, h.set ⟨[], e⟩ rfl (fun _ => rfl) he, Lib.grownBy_setB (Lib.grownBy_setB (grefl _ _) _ _) _ _⟩
  · go_wp2_with fail
    (first | refine bodyPost_end (results_none rfl _ _ _) rfl ?_ | refine bodyPost_ret (results_none rfl _ _ _) rfl ?_)
    rw [HG.out (by omega)]
    exact ⟨rfl, h, grefl _ _⟩
theorem err_any (w : World) (b : Nat) (all : List UInt8) (r : R) (h : Src w b all r) :
    Calls Try.prog 66 #[.pointer (some ⟨b, 0, none⟩)] w fun x w' => x = .returned (.int .i64 r.err) ∧ w = w' := by
  obtain ⟨h0, h1, h2, f1, f2, hs, ho, hl, hr⟩ := h
  go_enter Try.func66, Try.ntmps66
  go_wp2_with fail
  go_ret
  exact ⟨rfl, rfl⟩
set_option maxHeartbeats 1000000 in
theorem left_any (w : World) (b : Nat) (all : List UInt8) (r : R) (h : Src w b all r) :
    Calls Try.prog 61 #[.pointer (some ⟨b, 0, none⟩)] w fun x w' => x = .returned (.int .i64 r.s.length) ∧ Below w.heap.size w w' := by
  obtain ⟨k, hk, _, h1⟩ := h.drop
  have h0 := h.c0
  have hl := h.len
  clear h
  go_enter Try.func61, Try.ntmps61
  go_wp2_with fail
  go_quiet (fail)
  go_wp2_with fail
  go_ret
  exact ⟨ret_int (by omega), drewB _ _⟩
theorem ext (l : List UInt8) (i j : Nat) : (⟨l.toArray⟩ : ByteArray).extract i j = ⟨((l.drop i).take (j - i)).toArray⟩ := by
  apply ByteArray.ext
  rw [ByteArray.data_extract]
  apply Array.ext'
  simp [List.extract]
set_option maxHeartbeats 1000000 in
theorem take_any (w : World) (b : Nat) (all : List UInt8) (r : R) (n : Int) (hn0 : -9223372036854775808 ≤ n) (hn1 : n ≤ 9223372036854775807) (h : Src w b all r) :
    Calls Try.prog 65 #[.pointer (some ⟨b, 0, none⟩), .int .i64 n] w fun x w' => x = .returned (.string ⟨(r.take n).2.toArray⟩) ∧ Src w' b all (r.take n).1 ∧ w.grownBy w' (some b) := by
  have hT : n < 0 ∨ (r.s.length : Int) < n → r.take n = (r.fail 2, []) := fun a => if_pos a
  have hF : ¬ (n < 0 ∨ (r.s.length : Int) < n) → r.take n = (⟨r.s.drop n.toNat, r.err⟩, r.s.take n.toNat) := fun a => if_neg a
  have HT := Lib.hid hT
  have HF := Lib.hid hF
  clear hT hF
  go_enter Try.func65, Try.ntmps65
  by_cases c1 : n < 0
  · go_wp2_with fail
    refine (wrong_any _ b all r 2 (by omega) h).mono ?_; rintro e w1 ⟨rfl, hs, hg⟩
    go_wp2_with fail
    go_ret
    rw [HT.out (Or.inl c1)]
    exact ⟨rfl, hs, hg⟩
  · go_wp2_with fail
    refine (left_any _ b all r h).mono ?_; rintro e w1 ⟨rfl, hb⟩
    have hs1 := h.below hb
    have hg1 := Lib.grownBy_below (grefl w (some b)) hb
    by_cases c2 : (r.s.length : Int) < n
    · go_wp2_with fail
      refine (wrong_any _ b all r 2 (by omega) hs1).mono ?_; rintro e w2 ⟨rfl, hs2, hg2⟩
      go_wp2_with fail
      go_ret
      rw [HT.out (Or.inr c2)]
      exact ⟨rfl, hs2, Lib.grownBy_trans hg1 hg2⟩
    · obtain ⟨n, rfl⟩ : ∃ m : Nat, n = m := ⟨n.toNat, by omega⟩
      obtain ⟨k, hk, hd, h1⟩ := hs1.drop
      have h0 := hs1.c0
      have hf1 := hs1.f1
      have hl := h.len
      have HD := Lib.hid hd
      clear hd
      go_wp2_with fail
      have hq : Src (w1.setCell ⟨b, 1, none⟩ (.int .i64 ((k + n : Nat) : Int))) b all ⟨r.s.drop n, r.err⟩ := hs1.setAt ⟨r.s.drop n, r.err⟩ ((List.drop_suffix _ _).trans h.suf) (fun he => by show List.drop n r.s = []; rw [h.ok he]; exact List.drop_nil) rfl _ (by simp only [List.length_drop]; omega)
      have hgq := Lib.grownBy_setB hg1 1 (.int .i64 ((k + n : Nat) : Int))
      refine name_world (fun w' => Src w' b all ⟨r.s.drop n, r.err⟩ ∧ w'.cell? ⟨b, 1, none⟩ = some (.int .i64 ((k + n : Nat) : Int)) ∧ w.grownBy w' (some b)) ⟨hq, by simpa using cell_set (j := 1) (v := .int .i64 ((k + n : Nat) : Int)) h1, hgq⟩ ?_
      clear hq hgq h1 h0 hf1 hs1
      rintro w2 ⟨hq, h1, hg2⟩
      have h0 := hq.c0
      have hk2 : k + n ≤ all.length := by omega
      go_quiet (fail)
      go_wp2_with fail
      go_ret
      rw [HF.out (by omega)]
      refine ⟨ret_str ?_, hq.below (drewB _ _), Lib.grownBy_below hg2 (drewB _ _)⟩
      rw [ext, HD.out]
      congr 3
      omega
theorem value_take (l : List UInt8) (k : Nat) (hk : k < l.length) : value (l.take (k + 1)) = value (l.take k) * 256 + l[k].toNat := by
  rw [List.take_succ_eq_append_getElem hk, value_snoc]
theorem value_take_lt (l : List UInt8) (k : Nat) (hk : k < l.length) (hl : l.length ≤ 8) : value (l.take k) < 72057594037927936 := by
  have h1 := value_lt (l.take k)
  have h2 : (l.take k).length ≤ 7 := by rw [List.length_take]; omega
  have h3 : 256 ^ (l.take k).length ≤ 256 ^ 7 := Nat.pow_le_pow_right (by decide) h2
  omega
theorem or_byte (n b : Nat) (hn : n < 72057594037927936) (hb : b < 256) : Go.bits .or .u64 ((n * 256 : Nat) : Int) (b : Int) = ((n * 256 + b : Nat) : Int) := by
  rw [u64_or_nat _ _ (by omega) (by omega)]
  congr 1
  have := Nat.shiftLeft_add_eq_or_of_lt (i := 8) (show b < 2 ^ 8 by omega) n
  rw [Nat.shiftLeft_eq] at this
  exact this.symm
theorem conv_below (w : World) (e : TypeId) (s : ByteArray) : Below w.heap.size w (Lib.bytesWorld w e s) :=
  ⟨rfl, rfl, rfl, by rw [Lib.bytesWorld_size]; omega, fun j hj => Lib.bytesWorld_at_old w e s j hj⟩
set_option maxHeartbeats 2000000 in
theorem big_any (l : List UInt8) (hl : l.length ≤ 8) (w : World) : Calls Try.prog 84 #[.string ⟨l.toArray⟩] w fun e w' => e = .returned (.int .u64 (value l)) ∧ Below w.heap.size w w' := by
  have hconv := Lib.run_convert_string_bytes (P := Try.prog) w 9 54 5 ⟨l.toArray⟩ Try.underlying9 Try.underlying54 Try.underlying5
  have hbel := conv_below w 5 ⟨l.toArray⟩
  have hcells := Lib.bytesWorld_cell w 5 ⟨l.toArray⟩
  rw [size_mk] at hconv hcells
  generalize Lib.bytesWorld w 5 ⟨l.toArray⟩ = w1 at hconv hbel hcells
  generalize grownCap w l.length 0 5 = cap at hconv
  obtain ⟨ad, had⟩ : ∃ ad : Addr, ad = ⟨w.heap.size, 0, none⟩ := ⟨_, rfl⟩
  have hcells : ∀ k, k < l.length → w1.cell? (ad.add k) = some (.int .u8 ((l[k]?.getD 0).toNat : Int)) := fun k hk => by
    have := hcells k hk
    rw [had]
    have e : (⟨w.heap.size, 0, none⟩ : Addr).add k = ⟨w.heap.size, k, none⟩ := by
      cases k with
      | zero => rfl
      | succ k => simp [Addr.add]
    rw [e]
    simpa [List.getD] using this
  rw [← had] at hconv
  clear had
  go_enter Try.func84, Try.ntmps84
  go_wp2_with fail
  go_loop [3, 9] (fun a c => ∃ m k : Nat, a = .int .u64 m ∧ c = .int .i64 k ∧ k ≤ l.length ∧ Hid (m = value (l.take k))) (fun _ c => l.length - (intOf c).toNat)
  case atStart => exact ⟨0, 0, rfl, rfl, by omega, rfl⟩
  case round =>
    obtain ⟨m, k, rfl, rfl, hk, H⟩ := hrel
    by_cases hlt : k < l.length
    · have hc := hcells k hlt
      have hm := value_take_lt l k hlt hl
      rw [← H.out] at hm
      have hv := value_take l k hlt
      rw [← H.out] at hv
      have hg : l[k]?.getD 0 = l[k] := by simp [hlt]
      rw [hg] at hc
      have hbl := UInt8.toNat_lt l[k]
      have HV := Lib.hid hv
      have HO := Lib.hid (or_byte m l[k].toNat hm hbl)
      clear hv H hg
      go_wp2_with fail
      refine ⟨⟨m * 256 + l[k].toNat, k + 1, ?_, by go_num, by omega, HV.out.symm⟩, by simp [intOf]; omega⟩
      rw [show (m : Int) * 256 = ((m * 256 : Nat) : Int) by omega, HO.out]
    · obtain rfl : k = l.length := by omega
      go_wp2_with fail
      go_ret
      exact ⟨ret_int (by rw [H.out, List.take_length]), hbel⟩
theorem take_snd_len (r : R) (n : Int) : (r.take n).2.length ≤ n.toNat := by
  unfold R.take
  split
  · exact Nat.zero_le _
  · simp only [List.length_take]; omega
theorem take_all {r : R} {n : Int} (h : ¬ (n < 0 ∨ (r.s.length : Int) < n)) : (r.take n).2.length = n.toNat ∧ (r.take n).1.err = r.err := by
  unfold R.take
  rw [if_neg h]
  exact ⟨by simp only [List.length_take]; omega, rfl⟩
/-- Bytes that could not be taken: an error, and none. -/
theorem take_none {r : R} {n : Nat} (h : (r.s.length : Int) < n) : (r.take n).2 = [] ∧ ((r.take n).1.err ≠ 0) ∧ (r.take n).1 = r.fail 2 := by
  unfold R.take
  rw [if_pos (Or.inr h)]
  refine ⟨rfl, ?_, rfl⟩
  unfold R.fail
  split
  · decide
  · rename_i h1
    intro h2
    exact h1 ⟨h2, by decide⟩
theorem fail_after {r : R} (h : r.err ≠ 0) (e : Nat) : r.fail e = r := by
  unfold R.fail
  rw [if_neg (fun ⟨a, _⟩ => h a)]
theorem num_split {r : R} {m : Nat} (ho : r.ok) : ((r.take 1).2 = [] ∧ r.num m = ((r.take 1).1, 0)) ∨ ∃ c : UInt8, (r.take 1).2 = [c] ∧
    ((8 < c.toNat ∧ r.num m = ((r.take 1).1.fail 3, 0)) ∨ (c.toNat ≤ 8 ∧
      (((r.take 1).1.take c.toNat).2.length = c.toNat ∧ ((width (value ((r.take 1).1.take c.toNat).2) = c.toNat ∧ value ((r.take 1).1.take c.toNat).2 ≤ m ∧ r.num m = (((r.take 1).1.take c.toNat).1, value ((r.take 1).1.take c.toNat).2)) ∨
        (¬ (width (value ((r.take 1).1.take c.toNat).2) = c.toNat ∧ value ((r.take 1).1.take c.toNat).2 ≤ m) ∧ r.num m = (((r.take 1).1.take c.toNat).1.fail 3, 0))) ∨
       ((((r.take 1).1.take c.toNat).2 = [] ∧ 0 < c.toNat ∧ (((r.take 1).1.take c.toNat).1.fail 3 = ((r.take 1).1.take c.toNat).1) ∧ r.num m = (((r.take 1).1.take c.toNat).1, 0)))))) := by
  have hl := take_snd_len r 1
  have ho1 := R.take_ok ho 1
  unfold R.num
  generalize r.take 1 = t at hl ho1
  obtain ⟨r1, l1⟩ := t
  dsimp only at hl ho1 ⊢
  match l1, hl with
  | [], _ => exact Or.inl ⟨rfl, rfl⟩
  | [c], _ =>
    refine Or.inr ⟨c, rfl, ?_⟩
    dsimp only
    by_cases h8 : 8 < c.toNat
    · rw [if_pos h8]
      exact Or.inl ⟨h8, rfl⟩
    · rw [if_neg h8]
      refine Or.inr ⟨by omega, ?_⟩
      by_cases hn : (r1.s.length : Int) < (c.toNat : Nat)
      · obtain ⟨e1, e2, e3⟩ := take_none hn
        refine Or.inr ⟨e1, by omega, fail_after e2 3, ?_⟩
        rw [if_pos e2]
      · obtain ⟨e1, e2⟩ := take_all (r := r1) (n := (c.toNat : Nat)) (by omega)
        rw [Int.toNat_natCast] at e1
        refine Or.inl ⟨e1, ?_⟩
        generalize hq : r1.take (c.toNat : Nat) = q at e1 e2
        obtain ⟨r2, l2⟩ := q
        dsimp only at e1 e2 ⊢
        by_cases hr : r2.err = 0
        · by_cases hw : width (value l2) = c.toNat ∧ value l2 ≤ m
          · refine Or.inl ⟨hw.1, hw.2, ?_⟩
            rw [if_neg (by omega), if_neg (by omega)]
          · refine Or.inr ⟨hw, ?_⟩
            rw [if_neg (by omega), if_pos (by omega)]
        · by_cases hw : width (value l2) = c.toNat ∧ value l2 ≤ m
          · have hs1 := ho1 (by rw [← e2]; exact hr)
            have hc0 : c.toNat = 0 := by rw [hs1] at hn; simp at hn; omega
            have hl0 : l2 = [] := List.length_eq_zero_iff.1 (by omega)
            refine Or.inl ⟨hw.1, hw.2, ?_⟩
            rw [if_pos hr, hl0]
            rfl
          · refine Or.inr ⟨hw, ?_⟩
            rw [if_pos hr, fail_after hr]
set_option maxHeartbeats 2000000 in
theorem num_any (w : World) (b : Nat) (all : List UInt8) (r : R) (m : Nat) (hm : m < 18446744073709551616) (h : Src w b all r) :
    Calls Try.prog 77 #[.pointer (some ⟨b, 0, none⟩), .int .u64 m] w fun x w' => x = .returned (.int .u64 (r.num m).2) ∧ Src w' b all (r.num m).1 ∧ w.grownBy w' (some b) := by
  obtain ⟨q, hq⟩ : ∃ q, q = r.num m := ⟨_, rfl⟩
  have hnum := num_split (r := r) (m := m) h.ok
  rw [← hq] at hnum ⊢
  clear hq
  have ht1 := Lib.hid (take_any w b all r 1 (by omega) (by omega) h)
  generalize r.take 1 = t1 at hnum ht1
  obtain ⟨r1, l1⟩ := t1
  dsimp only at hnum ht1
  go_enter Try.func77, Try.ntmps77
  go_wp2_with fail
  refine ht1.out.mono ?_; rintro e w1 ⟨rfl, hs1, hg1⟩
  obtain ⟨rfl, rfl⟩ | ⟨c, rfl, hnum⟩ := hnum
  · go_wp2_with fail
    go_ret
    exact ⟨rfl, hs1, hg1⟩
  · have hz : (⟨#[c]⟩ : ByteArray)[0]'(by show 0 < 1; omega) = c := rfl
    have hcl := UInt8.toNat_lt c
    have hw : wrap64 (c.toNat : Int) = c.toNat := w64 (by omega) (by omega)
    obtain ⟨h8, rfl⟩ | ⟨h8, hnum⟩ := hnum
    · go_wp2_with fail
      refine (wrong_any _ b all _ 3 (by omega) hs1).mono ?_; rintro e w2 ⟨rfl, hs2, hg2⟩
      go_wp2_with fail
      go_ret
      exact ⟨rfl, hs2, Lib.grownBy_trans hg1 hg2⟩
    · have ht2 := Lib.hid (take_any w1 b all r1 c.toNat (by omega) (by omega) hs1)
      generalize r1.take c.toNat = t2 at hnum ht2
      obtain ⟨r2, l2⟩ := t2
      dsimp only at hnum ht2
      generalize hcn : c.toNat = cn at hnum ht2 hw hcl h8
      go_wp2_with fail
      refine ht2.out.mono ?_; rintro e w2 ⟨rfl, hs2, hg2⟩
      have hl2 : l2.length ≤ 8 := by
        obtain ⟨h, _⟩ | ⟨rfl, _⟩ := hnum
        · omega
        · exact Nat.zero_le _
      have hv := value_lt l2
      have hv2 : value l2 < 18446744073709551616 := by
        have : 256 ^ l2.length ≤ 256 ^ 8 := Nat.pow_le_pow_right (by decide) hl2
        omega
      clear hv
      have hg2' := Lib.grownBy_trans hg1 hg2
      go_wp2_with fail
      refine (big_any l2 hl2 _).mono ?_; rintro e w3 ⟨rfl, hb3⟩
      have hs3 := hs2.below hb3
      have hg3 := Lib.grownBy_below hg2' hb3
      go_wp2_with fail
      refine (width_any _ hv2 _).mono ?_; rintro e w4 ⟨rfl, rfl⟩
      obtain ⟨h1, ⟨h2, h3, rfl⟩ | ⟨h2, rfl⟩⟩ | ⟨rfl, h1, h2, rfl⟩ := hnum
      · go_wp2_with fail
        go_ret
        exact ⟨rfl, hs3, hg3⟩
      · by_cases h4 : width (value l2) = cn
        · have h5 : m < value l2 := by omega
          go_wp2_with fail
          refine (wrong_any _ b all _ 3 (by omega) hs3).mono ?_; rintro e w5 ⟨rfl, hs5, hg5⟩
          go_wp2_with fail
          go_ret
          exact ⟨rfl, hs5, Lib.grownBy_trans hg3 hg5⟩
        · go_wp2_with fail
          refine (wrong_any _ b all _ 3 (by omega) hs3).mono ?_; rintro e w5 ⟨rfl, hs5, hg5⟩
          go_wp2_with fail
          go_ret
          exact ⟨rfl, hs5, Lib.grownBy_trans hg3 hg5⟩
      · have hz0 : width (value ([] : List UInt8)) = 0 := rfl
        go_wp2_with fail
        refine (wrong_any _ b all _ 3 (by omega) hs3).mono ?_; rintro e w5 ⟨rfl, hs5, hg5⟩
        rw [h2] at hs5
        go_wp2_with fail
        go_ret
        exact ⟨rfl, hs5, Lib.grownBy_trans hg3 hg5⟩
theorem num_le (r : R) (m : Nat) (ho : r.ok) : (r.num m).2 ≤ m := by
  rcases num_split (r := r) (m := m) ho with ⟨_, h⟩ | ⟨c, _, ⟨_, h⟩ | ⟨_, ⟨_, ⟨_, h2, h⟩ | ⟨_, h⟩⟩ | ⟨_, _, _, h⟩⟩⟩
  all_goals rw [h]; first | exact Nat.zero_le _ | exact h2
theorem int_le (r : R) (n : Int) (ho : r.ok) : 0 ≤ (r.int n).2 ∧ (r.int n).2 ≤ max n 0 := by
  have := num_le r (max n 0).toNat ho
  unfold R.int
  dsimp only
  omega
set_option maxHeartbeats 2000000 in
theorem int_any (w : World) (b : Nat) (all : List UInt8) (r : R) (n : Int) (hn0 : -9223372036854775808 ≤ n) (hn1 : n ≤ 9223372036854775807) (h : Src w b all r) :
    Calls Try.prog 62 #[.pointer (some ⟨b, 0, none⟩), .int .i64 n] w fun x w' => x = .returned (.int .i64 (r.int n).2) ∧ Src w' b all (r.int n).1 ∧ w.grownBy w' (some b) := by
  have hle := num_le r (max n 0).toNat h.ok
  have hc := num_any w b all r (max n 0).toNat (by omega) h
  obtain ⟨q, hq⟩ : ∃ q, q = r.num (max n 0).toNat := ⟨_, rfl⟩
  unfold R.int
  rw [← hq] at hle hc ⊢
  clear hq
  have HC := Lib.hid hc
  clear hc
  obtain ⟨m, hm⟩ : ∃ m : Nat, m = (max n 0).toNat := ⟨_, rfl⟩
  have hm2 : max n 0 = (m : Int) := by omega
  rw [← hm] at HC hle
  clear hm
  have hm3 : m ≤ 9223372036854775807 := by omega
  obtain ⟨q1, q2⟩ := q
  dsimp only at hle HC ⊢
  go_enter Try.func62, Try.ntmps62
  go_wp2_with fail
  refine HC.out.mono ?_; rintro e w1 ⟨rfl, hs, hg⟩
  go_wp2_with fail
  go_ret
  exact ⟨rfl, hs, hg⟩
theorem from_any (w : World) (l : List UInt8) (hl : l.length ≤ 140737488355328) :
    Calls Try.prog 60 #[.string ⟨l.toArray⟩] w fun x w' => x = .returned (.pointer (some ⟨w.heap.size, 0, none⟩)) ∧ Src w' w.heap.size l ⟨l, 0⟩ ∧ Below w.heap.size w w' := by
  go_enter Try.func60, Try.ntmps60
  go_wp2_with fail
  go_ret
  refine ⟨rfl, ?_, (Below.refl _ _).alloc (Nat.le_refl _) _⟩
  exact { c0 := by simp
          c1 := by simp
          c2 := by simp
          f1 := by unfold World.frozen?; rw [heap_alloc_new w _]; rfl
          f2 := by unfold World.frozen?; rw [heap_alloc_new w _]; rfl
          suf := List.suffix_refl _
          ok := fun h => absurd rfl h
          len := hl
          err := by simp }
end Go.Proofs.Ytfacifhlcaghiaa.NumC
