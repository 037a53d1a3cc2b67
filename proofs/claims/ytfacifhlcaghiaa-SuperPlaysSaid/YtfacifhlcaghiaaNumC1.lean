/- Contracts of layer 1 (num) and its reference, what is put: width, Put, Word, Text, Bool, List; High, Put, Word, Text, Bool, List. -/
import Derived.Test.YtfacifhlcaghiaaNumPure
import Derived.Test.YtfacifhlcaghiaaBld
import Derived.WalkSpells
import Derived.Deep.RegionHeld3
import Derived.Deep.RegionWith
import Derived.Deep.QuietTactic
import Derived.BigQuiet
namespace Go.Proofs.Ytfacifhlcaghiaa.NumC
open Go Go.RowKit
open Go.Proofs.Ytfacifhlcaghiaa.Gen
open Go.Proofs.Ytfacifhlcaghiaa.Num
set_option linter.unusedVariables false
theorem ret_int {k : IntKind} {a b : Int} (h : a = b) : Ending.returned (.int k a) = .returned (.int k b) := by rw [h]
theorem ret_str {a b : ByteArray} (h : a = b) : Ending.returned (.string a) = .returned (.string b) := by rw [h]

theorem width_step {m : Nat} (h0 : 0 < m) (hm : m < 18446744073709551616) {k n : Nat} (H : k + width m = width n) : k + 1 ≤ 8 ∧ k + 1 + width (m / 256) = width n := by
  have h1 := width_pos h0 hm
  have h2 := width_le n
  omega
set_option maxHeartbeats 1000000 in
theorem width_any (n : Nat) (hn : n < 18446744073709551616) (w : World) : Calls Try.prog 76 #[.int .u64 n] w fun e w' => e = .returned (.int .i64 (width n)) ∧ w = w' := by
  go_enter Try.func76, Try.ntmps76
  go_wp2
  go_loop [0, 3] (fun a c => ∃ m k : Nat, a = .int .u64 m ∧ c = .int .i64 k ∧ m < 18446744073709551616 ∧ k ≤ 8 ∧ Hid (k + width m = width n)) (fun a _ => (intOf a).toNat)
  case atStart => exact ⟨n, 0, rfl, rfl, hn, by omega, by show 0 + _ = _; omega⟩
  case round =>
    obtain ⟨m, k, rfl, rfl, hm, hk, H⟩ := hrel
    by_cases h0 : 0 < m
    · go_wp2_with fail
      exact ⟨⟨m / 256, k + 1, by go_num, by go_num, by omega, (width_step h0 hm H.out).1, (width_step h0 hm H.out).2⟩, by simp [intOf]; omega⟩
    · obtain rfl : m = 0 := by omega
      go_wp2_with fail
      go_ret
      exact ⟨ret_int (by have := H.out; rw [width_zero] at this; omega), rfl⟩

theorem byte_eq (n k : Nat) : ((n : Int) / 2 ^ (8 * k) % 256) = ((n / 256 ^ k % 256 : Nat) : Int) := by
  rw [Int.pow_mul]
  simp
set_option maxHeartbeats 2000000 in
theorem put_any (n : Nat) (hn : n < 18446744073709551616) (w : World) : Calls Try.prog 57 #[.int .u64 n] w fun e w' => e = .returned (.string ⟨(put n).toArray⟩) ∧ Below w.heap.size w w' := by
  have hw8 := width_le n
  go_enter Try.func57, Try.ntmps57
  go_wp2_with fail
  refine (width_any n hn _).mono ?_; rintro e w1 ⟨rfl, rfl⟩
  go_wp2_with fail
  refine (Bld.writeByte _ w.heap.size w.heap.size [] _ (Bld.IsB.fresh w _ (Nat.le_refl _)) (by simp) (by simp) (by omega) (by omega)).mono ?_
  rintro e w1 ⟨rfl, hi, hb⟩
  have hi0 : Bld.IsB w1 w.heap.size w.heap.size [UInt8.ofNat (width n)] := by simpa using hi
  have hb0 := ((Below.refl _ _).alloc (Nat.le_refl _) _).trans hb
  clear hi hb
  go_wp2_with fail
  go_loopw [3] (fun c wr => ∃ (k : Nat) (l : List UInt8), c = .int .i64 k ∧ k ≤ 8 ∧ l.length + k ≤ 9 ∧ Bld.IsB wr w.heap.size w.heap.size l ∧ Below w.heap.size w wr ∧ Hid (l ++ bigs n k = put n)) (fun c _ => (intOf c).toNat)
  case atStart => exact ⟨width n, [UInt8.ofNat (width n)], rfl, hw8, by simp; omega, hi0, hb0, rfl⟩
  case round =>
    obtain ⟨k, l, rfl, hk, hl, hi, hb, H⟩ := hrel
    by_cases h0 : 0 < k
    · obtain ⟨k, rfl⟩ : ∃ q, k = q + 1 := ⟨k - 1, by omega⟩
      go_wp2_with fail
      rw [byte_eq n k]
      refine (Bld.writeByte _ _ _ l _ hi (by omega) hb.size (by omega) (by omega)).mono ?_
      rintro e w2 ⟨rfl, hi2, hb2⟩
      rw [Int.toNat_natCast] at hi2
      go_wp2_with fail
      go_roundw
      case rel => exact ⟨k, _, rfl, by omega, by simp; omega, hi2, hb.trans hb2, by have := H.out; rw [bigs] at this; show _ = _; simpa using this⟩
      case measure => simp [intOf]
    · obtain rfl : k = 0 := by omega
      go_wp2_with fail
      refine (Bld.string _ _ _ l hi hb.size).mono ?_
      rintro e w2 ⟨rfl, hb2⟩
      go_wp2_with fail
      go_ret
      exact ⟨ret_str (by have := H.out; rw [bigs, List.append_nil] at this; rw [this]), hb.trans hb2⟩

/-- The bytes of w from the k-th on. -/
theorem word_eq (n k : Nat) : ((n : Int) / 2 ^ (8 * k) % 256) = ((n / 256 ^ k % 256 : Nat) : Int) := byte_eq n k
theorem put_len (n : Nat) : (put n).length ≤ 9 := by have := put_length n; have := width_le n; omega
theorem str_app (l : List UInt8) (s : ByteArray) : (⟨l.toArray⟩ : ByteArray) ++ s = ⟨(l ++ s.data.toList).toArray⟩ := by
  obtain ⟨⟨m⟩⟩ := s
  rw [ByteArray.mk_append_mk]
theorem str_app2 (l m : List UInt8) : (⟨l.toArray⟩ : ByteArray) ++ ⟨m.toArray⟩ = ⟨(l ++ m).toArray⟩ := by rw [ByteArray.mk_append_mk]
theorem size_mk (l : List UInt8) : (⟨l.toArray⟩ : ByteArray).size = l.length := by show l.toArray.size = _; simp
/-- The first numbers of a list as bytes, behind how many there are. -/
def listUpto (l : List Int) (k : Nat) : List UInt8 := put l.length ++ (l.take k).flatMap fun n => put (max n 0).toNat
theorem listUpto_len (l : List Int) (k : Nat) : (listUpto l k).length ≤ 9 * k + 9 := by
  have h1 := put_len l.length
  have : ∀ m : List Int, (m.flatMap fun n => put (max n 0).toNat).length ≤ 9 * m.length := by
    intro m
    induction m with
    | nil => simp
    | cons a m ih => rw [List.flatMap_cons, List.length_append, List.length_cons]; have := put_len (max a 0).toNat; omega
  have h2 := this (l.take k)
  have h3 := List.length_take_le k l
  unfold listUpto
  rw [List.length_append]
  omega
theorem listUpto_succ (l : List Int) (k : Nat) (hk : k < l.length) : listUpto l (k + 1) = listUpto l k ++ put (max (l[k]?.getD 0) 0).toNat := by
  unfold listUpto
  rw [List.take_succ_eq_append_getElem hk, List.flatMap_append, List.getElem?_eq_getElem hk]
  simp
theorem listUpto_all (l : List Int) : listUpto l l.length = list l := by simp [listUpto, list]
/-- The cells of a slice of integers. -/
def Ints (w : World) (A : Option Addr) (l : List Int) : Prop := ∀ i, i < l.length → ∃ ad, A = some ad ∧ w.cell? (ad.add i) = some (.int .i64 (l[i]?.getD 0))
theorem Ints.below {w w' : World} {A : Option Addr} {l : List Int} (h : Ints w A l) (hb : Below w.heap.size w w') : Ints w' A l := fun i hi => by
  obtain ⟨ad, e, hc⟩ := h i hi
  exact ⟨ad, e, cellB hb hc⟩
end Go.Proofs.Ytfacifhlcaghiaa.NumC
