/- Contracts of layer 1 (num) and its reference, what is put: width, Put, Word, Text, Bool, List; High, Put, Word, Text, Bool, List. -/
import Derived.Test.YtjkjcpbhlgjgcaaDoorNumPure
import Derived.Test.YtjkjcpbhlgjgcaaDoorBld
import Derived.WalkSpells
import Derived.Deep.RegionHeld3
import Derived.Deep.RegionWith
import Derived.Deep.QuietTactic
import Derived.BigQuiet
namespace Go.Proofs.YtjkjcpbhlgjgcaaDoor.NumC
open Go Go.RowKit
open Go.Proofs.YtjkjcpbhlgjgcaaDoor.Gen
open Go.Proofs.YtjkjcpbhlgjgcaaDoor.Num
set_option linter.unusedVariables false
theorem ret_int {k : IntKind} {a b : Int} (h : a = b) : Ending.returned (.int k a) = .returned (.int k b) := by rw [h]
theorem ret_str {a b : ByteArray} (h : a = b) : Ending.returned (.string a) = .returned (.string b) := by rw [h]

theorem width_step {m : Nat} (h0 : 0 < m) (hm : m < 18446744073709551616) {k n : Nat} (H : k + width m = width n) : k + 1 ≤ 8 ∧ k + 1 + width (m / 256) = width n := by
  have h1 := width_pos h0 hm
  have h2 := width_le n
  omega
set_option maxHeartbeats 1000000 in
theorem width_any (n : Nat) (hn : n < 18446744073709551616) (w : World) : Calls Tryd.prog 67 #[.int .u64 n] w fun e w' => e = .returned (.int .i64 (width n)) ∧ w = w' := by
  go_enter Tryd.func67, Tryd.ntmps67
  go_wp2
  go_loop [0, 3] (fun a c => ∃ m k : Nat, a = .int .u64 m ∧ c = .int .i64 k ∧ m < 18446744073709551616 ∧ k ≤ 8 ∧ Hid (k + width m = width n)) (fun a _ => (intOf a).toNat)
  case atStart => exact ⟨n, 0, rfl, rfl, hn, by omega, by show 0 + _ = _; omega⟩
  case round =>
    obtain ⟨m, k, rfl, rfl, hm, hk, H⟩ := hrel
    by_cases h0 : 0 < m
    · go_wp2_with fail
      exact ⟨⟨m / 256, k + 1, by go_num, by go_num, by omega, (width_step h0 hm H.out).1, (width_step h0 hm H.out).2⟩, by simp [intOf]; omega⟩
    · obtain rfl : m = 0 := by omega
      go_wp2_with fail
      go_ret
      exact ⟨ret_int (by have := H.out; rw [width_zero] at this; omega), rfl⟩

theorem byte_eq (n k : Nat) : ((n : Int) / 2 ^ (8 * k) % 256) = ((n / 256 ^ k % 256 : Nat) : Int) := by
  rw [Int.pow_mul]
  simp
set_option maxHeartbeats 2000000 in
theorem put_any (n : Nat) (hn : n < 18446744073709551616) (w : World) : Calls Tryd.prog 50 #[.int .u64 n] w fun e w' => e = .returned (.string ⟨(put n).toArray⟩) ∧ Below w.heap.size w w' := by
  have hw8 := width_le n
  go_enter Tryd.func50, Tryd.ntmps50
  go_wp2_with fail
  refine (width_any n hn _).mono ?_; rintro e w1 ⟨rfl, rfl⟩
  go_wp2_with fail
  refine (Bld.writeByte _ w.heap.size w.heap.size [] _ (Bld.IsB.fresh w _ (Nat.le_refl _)) (by simp) (by simp) (by omega) (by omega)).mono ?_
  rintro e w1 ⟨rfl, hi, hb⟩
  have hi0 : Bld.IsB w1 w.heap.size w.heap.size [UInt8.ofNat (width n)] := by simpa using hi
  have hb0 := ((Below.refl _ _).alloc (Nat.le_refl _) _).trans hb
  clear hi hb
  go_wp2_with fail
  go_loopw [3] (fun c wr => ∃ (k : Nat) (l : List UInt8), c = .int .i64 k ∧ k ≤ 8 ∧ l.length + k ≤ 9 ∧ Bld.IsB wr w.heap.size w.heap.size l ∧ Below w.heap.size w wr ∧ Hid (l ++ bigs n k = put n)) (fun c _ => (intOf c).toNat)
  case atStart => exact ⟨width n, [UInt8.ofNat (width n)], rfl, hw8, by simp; omega, hi0, hb0, rfl⟩
  case round =>
    obtain ⟨k, l, rfl, hk, hl, hi, hb, H⟩ := hrel
    by_cases h0 : 0 < k
    · obtain ⟨k, rfl⟩ : ∃ q, k = q + 1 := ⟨k - 1, by omega⟩
      go_wp2_with fail
      rw [byte_eq n k]
      refine (Bld.writeByte _ _ _ l _ hi (by omega) hb.size (by omega) (by omega)).mono ?_
      rintro e w2 ⟨rfl, hi2, hb2⟩
      rw [Int.toNat_natCast] at hi2
      go_wp2_with fail
      go_roundw
      case rel => exact ⟨k, _, rfl, by omega, by simp; omega, hi2, hb.trans hb2, by have := H.out; rw [bigs] at this; show _ = _; simpa using this⟩
      case measure => simp [intOf]
    · obtain rfl : k = 0 := by omega
      go_wp2_with fail
      refine (Bld.string _ _ _ l hi hb.size).mono ?_
      rintro e w2 ⟨rfl, hb2⟩
      go_wp2_with fail
      go_ret
      exact ⟨ret_str (by have := H.out; rw [bigs, List.append_nil] at this; rw [this]), hb.trans hb2⟩

/-- The bytes of w from the k-th on. -/
theorem word_eq (n k : Nat) : ((n : Int) / 2 ^ (8 * k) % 256) = ((n / 256 ^ k % 256 : Nat) : Int) := byte_eq n k
set_option maxHeartbeats 2000000 in
theorem word_any (n : Nat) (hn : n < 4294967296) (w : World) : Calls Tryd.prog 26 #[.int .u32 n] w fun e w' => e = .returned (.string ⟨(word n).toArray⟩) ∧ Below w.heap.size w w' := by
  go_enter Tryd.func26, Tryd.ntmps26
  go_wp2_with fail
  go_loopw [4] (fun c wr => ∃ (k : Nat) (l : List UInt8), c = .int .i64 (8 * (k : Int) - 8) ∧ k ≤ 4 ∧ l.length + k ≤ 4 ∧ Bld.IsB wr w.heap.size w.heap.size l ∧ Below w.heap.size w wr ∧ Hid (l ++ bigs n k = word n)) (fun c _ => (intOf c + 8).toNat)
  case atStart => exact ⟨4, [], rfl, by omega, by simp, Bld.IsB.fresh w _ (Nat.le_refl _), (Below.refl _ _).alloc (Nat.le_refl _) _, rfl⟩
  case round =>
    obtain ⟨k, l, rfl, hk, hl, hi, hb, H⟩ := hrel
    by_cases h0 : 0 < k
    · obtain ⟨k, rfl⟩ : ∃ q, k = q + 1 := ⟨k - 1, by omega⟩
      rw [show 8 * ((k + 1 : Nat) : Int) - 8 = ((8 * k : Nat) : Int) by omega]
      have hd : decide ((0 : Int) ≤ 8 * (k : Int)) = true := by simp; omega
      go_wp2_with fail
      rw [byte_eq n k]
      refine (Bld.writeByte _ _ _ l _ hi (by omega) hb.size (by omega) (by omega)).mono ?_
      rintro e w2 ⟨rfl, hi2, hb2⟩
      rw [Int.toNat_natCast] at hi2
      go_wp2_with fail
      go_roundw
      case rel => exact ⟨k, _, by go_num, by omega, by simp; omega, hi2, hb.trans hb2, by have := H.out; rw [bigs] at this; show _ = _; simpa using this⟩
      case measure => simp [intOf]; omega
    · obtain rfl : k = 0 := by omega
      go_wp2_with fail
      refine (Bld.string _ _ _ l hi hb.size).mono ?_
      rintro e w2 ⟨rfl, hb2⟩
      go_wp2_with fail
      go_ret
      exact ⟨ret_str (by have := H.out; rw [bigs, List.append_nil] at this; rw [this]), hb.trans hb2⟩

theorem put_len (n : Nat) : (put n).length ≤ 9 := by have := put_length n; have := width_le n; omega
theorem str_app (l : List UInt8) (s : ByteArray) : (⟨l.toArray⟩ : ByteArray) ++ s = ⟨(l ++ s.data.toList).toArray⟩ := by
  obtain ⟨⟨m⟩⟩ := s
  rw [ByteArray.mk_append_mk]
theorem str_app2 (l m : List UInt8) : (⟨l.toArray⟩ : ByteArray) ++ ⟨m.toArray⟩ = ⟨(l ++ m).toArray⟩ := by rw [ByteArray.mk_append_mk]
theorem size_mk (l : List UInt8) : (⟨l.toArray⟩ : ByteArray).size = l.length := by show l.toArray.size = _; simp
set_option maxHeartbeats 2000000 in
theorem text_any (s : ByteArray) (hs : s.size ≤ 140737488351232) (w : World) : Calls Tryd.prog 25 #[.string s] w fun e w' => e = .returned (.string ⟨(text s.data.toList).toArray⟩) ∧ Below w.heap.size w w' := by
  go_enter Tryd.func25, Tryd.ntmps25
  go_wp2_with fail
  refine (put_any _ (by omega) _).mono ?_; rintro e w1 ⟨rfl, hb⟩
  have hp := put_len s.size
  go_wp2_with fail
  go_ret
  exact ⟨ret_str (by rw [str_app]; simp [text]), hb⟩
theorem bool_any (b : Bool) (w : World) : Calls Tryd.prog 42 #[.bool b] w fun e w' => e = .returned (.string ⟨(bool b).toArray⟩) ∧ w = w' := by
  cases b
  all_goals
    go_enter Tryd.func42, Tryd.ntmps42
    go_wp2
    go_ret
    exact ⟨rfl, rfl⟩
/-- The first numbers of a list as bytes, behind how many there are. -/
def listUpto (l : List Int) (k : Nat) : List UInt8 := put l.length ++ (l.take k).flatMap fun n => put (max n 0).toNat
theorem listUpto_len (l : List Int) (k : Nat) : (listUpto l k).length ≤ 9 * k + 9 := by
  have h1 := put_len l.length
  have : ∀ m : List Int, (m.flatMap fun n => put (max n 0).toNat).length ≤ 9 * m.length := by
    intro m
    induction m with
    | nil => simp
    | cons a m ih => rw [List.flatMap_cons, List.length_append, List.length_cons]; have := put_len (max a 0).toNat; omega
  have h2 := this (l.take k)
  have h3 := List.length_take_le k l
  unfold listUpto
  rw [List.length_append]
  omega
theorem listUpto_succ (l : List Int) (k : Nat) (hk : k < l.length) : listUpto l (k + 1) = listUpto l k ++ put (max (l[k]?.getD 0) 0).toNat := by
  unfold listUpto
  rw [List.take_succ_eq_append_getElem hk, List.flatMap_append, List.getElem?_eq_getElem hk]
  simp
theorem listUpto_all (l : List Int) : listUpto l l.length = list l := by simp [listUpto, list]
/-- The cells of a slice of integers. -/
def Ints (w : World) (A : Option Addr) (l : List Int) : Prop := ∀ i, i < l.length → ∃ ad, A = some ad ∧ w.cell? (ad.add i) = some (.int .i64 (l[i]?.getD 0))
theorem Ints.below {w w' : World} {A : Option Addr} {l : List Int} (h : Ints w A l) (hb : Below w.heap.size w w') : Ints w' A l := fun i hi => by
  obtain ⟨ad, e, hc⟩ := h i hi
  exact ⟨ad, e, cellB hb hc⟩
set_option maxHeartbeats 2000000 in
theorem list_any (A : Option Addr) (cap : Nat) (l : List Int) (hl : l.length ≤ 1000000000000) (hr : ∀ n ∈ l, n ≤ 9223372036854775807) (w : World) (hc : Ints w A l) :
    Calls Tryd.prog 40 #[.slice A l.length cap] w fun e w' => e = .returned (.string ⟨(list l).toArray⟩) ∧ Below w.heap.size w w' := by
  go_enter Tryd.func40, Tryd.ntmps40
  go_wp2_with fail
  refine (put_any _ (by omega) _).mono ?_; rintro e w1 ⟨rfl, hb1⟩
  go_wp2_with fail
  have hp := put_len l.length
  have hi0 := (Bld.IsB.fresh w w.heap.size (Nat.le_refl _)).below hb1
  have hb0 := thenB ((Below.refl _ _).alloc (Nat.le_refl _) _) hb1
  clear hb1
  refine (Bld.writeString _ w.heap.size w.heap.size [] _ hi0 (by simp [size_mk]; omega) hb0.size).mono ?_
  rintro e w2 ⟨rfl, hi, hb2⟩
  have hi1 : Bld.IsB w2 w.heap.size w.heap.size (listUpto l 0) := by simpa [listUpto] using hi
  have hb1 := hb0.trans hb2
  clear hi hb0 hb2 hi0
  go_wp2_with fail
  go_loopw [5, 13] (fun _ c wr => ∃ k : Nat, c = .int .i64 k ∧ k ≤ l.length ∧ Bld.IsB wr w.heap.size w.heap.size (listUpto l k) ∧ Below w.heap.size w wr) (fun _ c _ => l.length - (intOf c).toNat)
  case atStart => exact ⟨0, rfl, by omega, hi1, hb1⟩
  case round =>
    obtain ⟨k, rfl, hk, hi, hb⟩ := hrel
    by_cases hlt : k < l.length
    · obtain ⟨ad, rfl, hcell⟩ := hc.below hb k hlt
      have hm := hr l[k] (List.getElem_mem hlt)
      have hll := listUpto_len l k
      have hs := listUpto_succ l k hlt
      have HS := Lib.hid hs
      clear hs
      obtain ⟨n, hn⟩ : ∃ n, n = l[k]?.getD 0 := ⟨_, rfl⟩
      rw [← hn] at hcell
      have HN := Lib.hid hn
      clear hn
      have hm : n ≤ 9223372036854775807 := by rw [HN.out]; simpa [hlt] using hm
      go_wp2_with fail
      rw [show max n 0 = (((max n 0).toNat : Nat) : Int) by omega]
      refine (put_any _ (by omega) _).mono ?_; rintro e w3 ⟨rfl, hb3⟩
      have hi3 := hi.below hb3
      have hb3' := thenB hb hb3
      have hp3 := put_len (max n 0).toNat
      go_wp2_with fail
      refine (Bld.writeString _ w.heap.size w.heap.size _ _ hi3 (by simp only [size_mk]; omega) hb3'.size).mono ?_
      rintro e w4 ⟨rfl, hi4, hb4⟩
      go_wp2_with fail
      go_roundw
      case rel => exact ⟨k + 1, by go_num, by omega, by rw [HS.out, ← HN.out]; exact hi4, hb3'.trans hb4⟩
      case measure => simp [intOf]; omega
    · obtain rfl : k = l.length := by omega
      go_wp2_with fail
      refine (Bld.string _ _ _ _ hi hb.size).mono ?_
      rintro e w2 ⟨rfl, hb2⟩
      go_wp2_with fail
      go_ret
      exact ⟨ret_str (by rw [listUpto_all]), hb.trans hb2⟩

end Go.Proofs.YtjkjcpbhlgjgcaaDoor.NumC
