/- Contracts of the reference of layer 1, what is put: High, Put, Word, Text, Bool, List. -/
import Derived.Test.YtjkjcpbhlgjgcaaDoorNumC1
import Derived.Outline
import Derived.Laws.BytesArg
namespace Go.Proofs.YtjkjcpbhlgjgcaaDoor.NumC
open Go Go.RowKit
open Go.Proofs.YtjkjcpbhlgjgcaaDoor.Gen
open Go.Proofs.YtjkjcpbhlgjgcaaDoor.Num
set_option linter.unusedVariables false

theorem bcell {W w1 : World} (hb : Below W.heap.size W w1) : (∀ b o, b < W.heap.size → w1.cell? ⟨b, o, none⟩ = W.cell? ⟨b, o, none⟩) ∧ (∀ b o, b < W.heap.size → w1.frozen? ⟨b, o, none⟩ = W.frozen? ⟨b, o, none⟩) :=
  ⟨fun b o h => hb.cell (p := ⟨b, o, none⟩) h, fun b o h => hb.frozen (p := ⟨b, o, none⟩) h⟩
/-- One byte as a text. -/
theorem conv1 (r : Nat) (hr : r < 256) (W : World) (g : Nat) (h : W.cell? ⟨g, 0, none⟩ = some (.int .u8 (r : Int))) :
    (convert 22 9 (.slice (some ⟨g, 0, none⟩) 1 1)).run Tryd.prog W = .ok (.string ⟨#[UInt8.ofNat r]⟩) W := by
  have := run_convert_bytes_arg (P := Tryd.prog) W 22 5 Tryd.underlying22 Tryd.underlying5 g 0 1 1 [(r : Int)] rfl (fun i hi => by
    obtain rfl : i = 0 := by omega
    simpa using h) 9 Tryd.underlying9
  rw [this]
  simp [strOfNums]

/-! ### the reference -/
theorem high_len (n : Nat) : (high n).length ≤ 8 := by rw [high_length]; exact width_le n
set_option maxHeartbeats 2000000 in
theorem high_any (f : Nat) : ∀ (n : Nat) (w : World), n < 256 ^ f → n < 18446744073709551616 → Calls Tryd.prog 57 #[.int .u64 n] w fun e w' => e = .returned (.string ⟨(high n).toArray⟩) ∧ Below w.heap.size w w' := by
  induction f with
  | zero =>
    intro n w h hn
    obtain rfl : n = 0 := by simpa using h
    go_enter Tryd.func57, Tryd.ntmps57
    go_wp2_with fail
    go_ret
    exact ⟨rfl, Below.refl _ _⟩
  | succ f ih =>
    intro n w h hn
    by_cases h0 : n = 0
    · subst h0
      go_enter Tryd.func57, Tryd.ntmps57
      go_wp2_with fail
      go_ret
      exact ⟨rfl, Below.refl _ _⟩
    · have HP := Lib.hid (high_pos (by omega) hn)
      have hd : n / 256 < 256 ^ f := by rw [Nat.pow_succ] at h; exact Nat.div_lt_of_lt_mul (by omega)
      have e1 : IntKind.u64.wrap ((n : Int) / 256) = ((n / 256 : Nat) : Int) := by rw [IntKind.wrap_u64]; omega
      have e2 : ((n : Int).tmod 256) = ((n % 256 : Nat) : Int) := by rw [Int.tmod_eq_emod_of_nonneg (by omega)]; omega
      have hr : n % 256 < 256 := by omega
      have IH := Lib.hid (fun W : World => ih (n / 256) W hd (by omega))
      have hl := high_len (n / 256)
      clear hd h ih
      generalize n / 256 = m at e1 IH HP hl
      generalize n % 256 = r at e2 HP hr
      have e3 : IntKind.u8.wrap (r : Int) = (r : Int) := by rw [IntKind.wrap_u8]; omega
      have hne : ((n : Int) == 0) = false := by simp; omega
      go_enter Tryd.func57, Tryd.ntmps57
      go_wp2_with fail
      clear hn h0
      have hcv := conv1 r hr
      go_region_with (go_at_call 57; refine (IH.out _).mono ?_; rintro e w1 ⟨rfl, hb⟩; obtain ⟨hc1, hf1⟩ := bcell hb; have hz1 := hb.size)
      all_goals
        go_wp2_with fail
        go_ret
        refine ⟨ret_str ?_, ?_⟩
        · rw [HP.out]; exact str_app2 _ _
        · first | exact Below.alloc (thenB (w1 := w.drew) (Below.refl _ _).drew hb) (by simpa using hb.size) _ | exact thenB (w1 := w.drew.alloc _) ((Below.refl _ _).drew.alloc (by simp) _) hb
set_option maxHeartbeats 2000000 in
theorem refPut_any (n : Nat) (hn : n < 18446744073709551616) (w : World) : Calls Tryd.prog 56 #[.int .u64 n] w fun e w' => e = .returned (.string ⟨(put n).toArray⟩) ∧ Below w.heap.size w w' := by
  have hl := high_len n
  have hw := high_length n
  have hw8 := width_le n
  have HW := Lib.hid hw
  clear hw
  have hc := conv1 (high n).length (by omega)
  go_enter Tryd.func56, Tryd.ntmps56
  go_wp2_with fail
  refine (high_any 8 n _ (by omega) hn).mono ?_; rintro e w1 ⟨rfl, hb⟩
  go_wp2_with fail
  go_ret
  exact ⟨ret_str (by rw [show (⟨#[UInt8.ofNat (high n).length]⟩ : ByteArray) = ⟨([UInt8.ofNat (high n).length] : List UInt8).toArray⟩ from rfl, str_app2, HW.out]; rfl), hb.alloc hb.size _⟩
theorem word_high (n : Nat) (hn : n < 4294967296) : (high n).length ≤ 4 ∧ word n = List.replicate (4 - (high n).length) 0 ++ high n := by
  have h1 := width_lt n (by omega)
  have h2 : width n ≤ 4 := by
    have h3 := width_le n
    rcases Nat.lt_or_ge 4 (width n) with h | h
    · exfalso
      have hlow : ∀ f m k, k < widthF f m → 256 ^ k ≤ m := by
        intro f
        induction f with
        | zero => intro m k h; simp [widthF] at h
        | succ f ih =>
          intro m k h
          rw [widthF] at h
          split at h
          · omega
          · cases k with
            | zero => simp; omega
            | succ k =>
              have := ih (m / 256) k (by omega)
              rw [Nat.pow_succ]
              omega
      have := hlow 8 n 4 h
      omega
    · exact h
  rw [high_length]
  refine ⟨h2, ?_⟩
  have := bigs_pad n (width n) (4 - width n) h1
  rw [show width n + (4 - width n) = 4 by omega] at this
  exact this
set_option maxHeartbeats 2000000 in
theorem refWord_any (n : Nat) (hn : n < 4294967296) (w : World) : Calls Tryd.prog 32 #[.int .u32 n] w fun e w' => e = .returned (.string ⟨(word n).toArray⟩) ∧ Below w.heap.size w w' := by
  obtain ⟨hl, hw⟩ := word_high n hn
  have HW := Lib.hid hw
  clear hw
  go_enter Tryd.func32, Tryd.ntmps32
  go_wp2_with fail
  refine (high_any 8 n _ (by omega) (by omega)).mono ?_; rintro e w1 ⟨rfl, hb⟩
  go_wp2_with fail
  go_loop [3] (fun s => ∃ l : List UInt8, s = .string ⟨l.toArray⟩ ∧ l.length ≤ 4 ∧ (high n).length ≤ l.length ∧ Hid (l = List.replicate (l.length - (high n).length) 0 ++ high n)) (fun s => match s with | .string s => 4 - s.size | _ => 0)
  case atStart => exact ⟨_, rfl, hl, Nat.le_refl _, by show _ = _; simp⟩
  case round =>
    obtain ⟨l, rfl, h4, hge, H⟩ := hrel
    by_cases h : l.length < 4
    · go_wp2_with fail
      refine ⟨⟨0 :: l, by rw [show (⟨#[0]⟩ : ByteArray) = ⟨([0] : List UInt8).toArray⟩ from rfl, str_app2]; rfl, by simp; omega, by simp; omega, ?_⟩, ?_⟩
      · show (0 :: l) = _
        rw [List.length_cons, show l.length + 1 - (high n).length = (l.length - (high n).length) + 1 by omega, List.replicate_succ, List.cons_append]
        congr 1
      · rw [show (⟨#[0]⟩ : ByteArray) = ⟨([0] : List UInt8).toArray⟩ from rfl, str_app2]
        simp [size_mk]
        omega
    · have h4' : l.length = 4 := by omega
      have HL := Lib.hid h4'
      clear h4'
      go_wp2_with fail
      go_ret
      exact ⟨ret_str (by rw [HW.out]; have := H.out; rw [HL.out] at this; rw [← this]), hb⟩
set_option maxHeartbeats 2000000 in
theorem refText_any (s : ByteArray) (hs : s.size ≤ 140737488351232) (w : World) : Calls Tryd.prog 31 #[.string s] w fun e w' => e = .returned (.string ⟨(text s.data.toList).toArray⟩) ∧ Below w.heap.size w w' := by
  go_enter Tryd.func31, Tryd.ntmps31
  go_wp2_with fail
  refine (refPut_any _ (by omega) _).mono ?_; rintro e w1 ⟨rfl, hb⟩
  have hp := put_len s.size
  go_wp2_with fail
  go_ret
  exact ⟨ret_str (by rw [str_app]; simp [text]), hb⟩
theorem refBool_any (b : Bool) (w : World) : Calls Tryd.prog 46 #[.bool b] w fun e w' => e = .returned (.string ⟨(bool b).toArray⟩) ∧ w = w' := by
  cases b
  all_goals
    go_enter Tryd.func46, Tryd.ntmps46
    go_wp2
    go_ret
    exact ⟨rfl, rfl⟩
set_option maxHeartbeats 2000000 in
theorem refList_any (A : Option Addr) (cap : Nat) (l : List Int) (hl : l.length ≤ 1000000000000) (hr : ∀ n ∈ l, n ≤ 9223372036854775807) (w : World) (hc : Ints w A l) :
    Calls Tryd.prog 45 #[.slice A l.length cap] w fun e w' => e = .returned (.string ⟨(list l).toArray⟩) ∧ Below w.heap.size w w' := by
  go_enter Tryd.func45, Tryd.ntmps45
  go_wp2_with fail
  refine (refPut_any _ (by omega) _).mono ?_; rintro e w1 ⟨rfl, hb1⟩
  have e0 : listUpto l 0 = put l.length := by simp [listUpto]
  rw [← e0]
  have hl0 := listUpto_len l 0
  clear e0
  go_wp2_with fail
  go_loopw [3, 4] (fun s c wr => ∃ k : Nat, s = .string ⟨(listUpto l k).toArray⟩ ∧ c = .int .i64 k ∧ k ≤ l.length ∧ Below w.heap.size w wr) (fun _ c _ => l.length - (intOf c).toNat)
  case atStart => exact ⟨0, rfl, rfl, by omega, hb1⟩
  case round =>
    obtain ⟨k, rfl, rfl, hk, hb⟩ := hrel
    have hll := listUpto_len l k
    by_cases hlt : k < l.length
    · obtain ⟨ad, rfl, hcell⟩ := hc.below hb k hlt
      have HS := Lib.hid (listUpto_succ l k hlt)
      have hm := hr l[k] (List.getElem_mem hlt)
      obtain ⟨n, hn⟩ : ∃ n, n = l[k]?.getD 0 := ⟨_, rfl⟩
      rw [← hn] at hcell
      have HN := Lib.hid hn
      clear hn
      have hm : n ≤ 9223372036854775807 := by rw [HN.out]; simpa [hlt] using hm
      by_cases hneg : n < 0
      · go_wp2_with fail
        refine (refPut_any 0 (by omega) _).mono ?_; rintro e w3 ⟨rfl, hb3⟩
        have hp3 := put_len 0
        go_wp2_with fail
        go_roundw
        case rel => exact ⟨k + 1, by rw [HS.out, ← HN.out, show (max n 0).toNat = 0 by omega, str_app2], by go_num, by omega, thenB hb hb3⟩
        case measure => simp [intOf]; omega
      · obtain ⟨m, rfl⟩ : ∃ m : Nat, n = m := ⟨n.toNat, by omega⟩
        go_wp2_with fail
        refine (refPut_any m (by omega) _).mono ?_; rintro e w3 ⟨rfl, hb3⟩
        have hp3 := put_len m
        go_wp2_with fail
        go_roundw
        case rel => exact ⟨k + 1, by rw [HS.out, ← HN.out, show (max (m : Int) 0).toNat = m by omega, str_app2], by go_num, by omega, thenB hb hb3⟩
        case measure => simp [intOf]; omega
    · obtain rfl : k = l.length := by omega
      go_wp2_with fail
      go_ret
      exact ⟨ret_str (by rw [listUpto_all]), hb⟩
end Go.Proofs.YtjkjcpbhlgjgcaaDoor.NumC
