-- packed by pack.py, a program of this claim's repo
import Derived.Test.YtjohfkpgghnpeaaIuB
import Derived.Test.YtjohfkpgghnpeaaIuC
import Derived.Test.YtjohfkpgghnpeaaIuD
import Derived.WalkSpells
import Derived.Deep.RegionHeld3
import Derived.Deep.RegionWith
import Derived.Deep.QuietTactic
import Derived.BigQuiet
import Derived.Outline
import Derived.Laws.BytesArg
section
namespace Go.Proofs.Ytjohfkpgghnpeaa.NumC
open Go Go.RowKit
open Go.Proofs.Ytjohfkpgghnpeaa.Gen
open Go.Proofs.Ytjohfkpgghnpeaa.Num
set_option linter.unusedVariables false
theorem ret_int {k : IntKind} {a b : Int} (h : a = b) : Ending.returned (.int k a) = .returned (.int k b) := by rw [h]
theorem ret_str {a b : ByteArray} (h : a = b) : Ending.returned (.string a) = .returned (.string b) := by rw [h]
theorem width_step {m : Nat} (h0 : 0 < m) (hm : m < 18446744073709551616) {k n : Nat} (H : k + width m = width n) : k + 1 ≤ 8 ∧ k + 1 + width (m / 256) = width n := by
  have h1 := width_pos h0 hm
  have h2 := width_le n
  omega
set_option maxHeartbeats 1000000 in
theorem width_any (n : Nat) (hn : n < 18446744073709551616) (w : World) : Calls Try.prog 99 #[.int .u64 n] w fun e w' => e = .returned (.int .i64 (width n)) ∧ w = w' := by
  go_enter Try.func99, Try.ntmps99
  go_wp2
  go_loop [0, 3] (fun a c => ∃ m k : Nat, a = .int .u64 m ∧ c = .int .i64 k ∧ m < 18446744073709551616 ∧ k ≤ 8 ∧ Hid (k + width m = width n)) (fun a _ => (intOf a).toNat)
  case atStart => exact ⟨n, 0, rfl, rfl, hn, by omega, by show 0 + _ = _; omega⟩
  case round =>
    obtain ⟨m, k, rfl, rfl, hm, hk, H⟩ := hrel
    by_cases h0 : 0 < m
    · go_wp2_with fail
      exact ⟨⟨m / 256, k + 1, by go_num, by go_num, by omega, (width_step h0 hm H.out).1, (width_step h0 hm H.out).2⟩, by simp [intOf]; omega⟩
    · obtain rfl : m = 0 := by omega
      go_wp2_with fail
      go_ret
      exact ⟨ret_int (by have := H.out; rw [width_zero] at this; omega), rfl⟩
theorem byte_eq (n k : Nat) : ((n : Int) / 2 ^ (8 * k) % 256) = ((n / 256 ^ k % 256 : Nat) : Int) := by
  rw [Int.pow_mul]
  simp
set_option maxHeartbeats 2000000 in
theorem put_any (n : Nat) (hn : n < 18446744073709551616) (w : World) : Calls Try.prog 76 #[.int .u64 n] w fun e w' => e = .returned (.string ⟨(put n).toArray⟩) ∧ Below w.heap.size w w' := by
  have hw8 := width_le n
  go_enter Try.func76, Try.ntmps76
  go_wp2_with fail
  refine (width_any n hn _).mono ?_; rintro e w1 ⟨rfl, rfl⟩
  go_wp2_with fail
  refine (Bld.writeByte _ w.heap.size w.heap.size [] _ (Bld.IsB.fresh w _ (Nat.le_refl _)) (by simp) (by simp) (by omega) (by omega)).mono ?_
  rintro e w1 ⟨rfl, hi, hb⟩
  have hi0 : Bld.IsB w1 w.heap.size w.heap.size [UInt8.ofNat (width n)] := by simpa using hi
  have hb0 := ((Below.refl _ _).alloc (Nat.le_refl _) _).trans hb
  clear hi hb
  go_wp2_with fail
  go_loopw [3] (fun c wr => ∃ (k : Nat) (l : List UInt8), c = .int .i64 k ∧ k ≤ 8 ∧ l.length + k ≤ 9 ∧ Bld.IsB wr w.heap.size w.heap.size l ∧ Below w.heap.size w wr ∧ Hid (l ++ bigs n k = put n)) (fun c _ => (intOf c).toNat)
  case atStart => exact ⟨width n, [UInt8.ofNat (width n)], rfl, hw8, by simp; omega, hi0, hb0, rfl⟩
  case round =>
    obtain ⟨k, l, rfl, hk, hl, hi, hb, H⟩ := hrel
    by_cases h0 : 0 < k
    · obtain ⟨k, rfl⟩ : ∃ q, k = q + 1 := ⟨k - 1, by omega⟩
      go_wp2_with fail
      rw [byte_eq n k]
      refine (Bld.writeByte _ _ _ l _ hi (by omega) hb.size (by omega) (by omega)).mono ?_
      rintro e w2 ⟨rfl, hi2, hb2⟩
      rw [Int.toNat_natCast] at hi2
      go_wp2_with fail
      go_roundw
      case rel => exact ⟨k, _, rfl, by omega, by simp; omega, hi2, hb.trans hb2, by have := H.out; rw [bigs] at this; show _ = _; simpa using this⟩
      case measure => simp [intOf]
    · obtain rfl : k = 0 := by omega
      go_wp2_with fail
      refine (Bld.string _ _ _ l hi hb.size).mono ?_
      rintro e w2 ⟨rfl, hb2⟩
      go_wp2_with fail
      go_ret
      exact ⟨ret_str (by have := H.out; rw [bigs, List.append_nil] at this; rw [this]), hb.trans hb2⟩
theorem put_len (n : Nat) : (put n).length ≤ 9 := by have := put_length n; have := width_le n; omega
theorem str_app (l : List UInt8) (s : ByteArray) : (⟨l.toArray⟩ : ByteArray) ++ s = ⟨(l ++ s.data.toList).toArray⟩ := by
  obtain ⟨⟨m⟩⟩ := s
  rw [ByteArray.mk_append_mk]
theorem str_app2 (l m : List UInt8) : (⟨l.toArray⟩ : ByteArray) ++ ⟨m.toArray⟩ = ⟨(l ++ m).toArray⟩ := by rw [ByteArray.mk_append_mk]
theorem size_mk (l : List UInt8) : (⟨l.toArray⟩ : ByteArray).size = l.length := by show l.toArray.size = _; simp
set_option maxHeartbeats 2000000 in
theorem text_any (s : ByteArray) (hs : s.size ≤ 140737488351232) (w : World) : Calls Try.prog 102 #[.string s] w fun e w' => e = .returned (.string ⟨(text s.data.toList).toArray⟩) ∧ Below w.heap.size w w' := by
  go_enter Try.func102, Try.ntmps102
  go_wp2_with fail
  refine (put_any _ (by omega) _).mono ?_; rintro e w1 ⟨rfl, hb⟩
  have hp := put_len s.size
  go_wp2_with fail
  go_ret
  exact ⟨ret_str (by rw [str_app]; simp [text]), hb⟩
def listUpto (l : List Int) (k : Nat) : List UInt8 := put l.length ++ (l.take k).flatMap fun n => put (max n 0).toNat
def Ints (w : World) (A : Option Addr) (l : List Int) : Prop := ∀ i, i < l.length → ∃ ad, A = some ad ∧ w.cell? (ad.add i) = some (.int .i64 (l[i]?.getD 0))
end Go.Proofs.Ytjohfkpgghnpeaa.NumC
end
section
namespace Go.Proofs.Ytjohfkpgghnpeaa.NumC
open Go Go.RowKit
open Go.Proofs.Ytjohfkpgghnpeaa.Gen
open Go.Proofs.Ytjohfkpgghnpeaa.Num
set_option linter.unusedVariables false
theorem bcell {W w1 : World} (hb : Below W.heap.size W w1) : (∀ b o, b < W.heap.size → w1.cell? ⟨b, o, none⟩ = W.cell? ⟨b, o, none⟩) ∧ (∀ b o, b < W.heap.size → w1.frozen? ⟨b, o, none⟩ = W.frozen? ⟨b, o, none⟩) :=
  ⟨fun b o h => hb.cell (p := ⟨b, o, none⟩) h, fun b o h => hb.frozen (p := ⟨b, o, none⟩) h⟩
theorem conv1 (r : Nat) (hr : r < 256) (W : World) (g : Nat) (h : W.cell? ⟨g, 0, none⟩ = some (.int .u8 (r : Int))) :
    (convert 121 9 (.slice (some ⟨g, 0, none⟩) 1 1)).run Try.prog W = .ok (.string ⟨#[UInt8.ofNat r]⟩) W := by
  have := run_convert_bytes_arg (P := Try.prog) W 121 5 Try.underlying121 Try.underlying5 g 0 1 1 [(r : Int)] rfl (fun i hi => by
    obtain rfl : i = 0 := by omega
    simpa using h) 9 Try.underlying9
  rw [this]
  simp [strOfNums]
theorem high_len (n : Nat) : (high n).length ≤ 8 := by rw [high_length]; exact width_le n
set_option maxHeartbeats 2000000 in
theorem high_any (f : Nat) : ∀ (n : Nat) (w : World), n < 256 ^ f → n < 18446744073709551616 → Calls Try.prog 93 #[.int .u64 n] w fun e w' => e = .returned (.string ⟨(high n).toArray⟩) ∧ Below w.heap.size w w' := by
  induction f with
  | zero =>
    intro n w h hn
    obtain rfl : n = 0 := by simpa using h
    go_enter Try.func93, Try.ntmps93
    go_wp2_with fail
    go_ret
    exact ⟨rfl, Below.refl _ _⟩
  | succ f ih =>
    intro n w h hn
    by_cases h0 : n = 0
    · subst h0
      go_enter Try.func93, Try.ntmps93
      go_wp2_with fail
      go_ret
      exact ⟨rfl, Below.refl _ _⟩
    · have HP := Lib.hid (high_pos (by omega) hn)
      have hd : n / 256 < 256 ^ f := by rw [Nat.pow_succ] at h; exact Nat.div_lt_of_lt_mul (by omega)
      have e1 : IntKind.u64.wrap ((n : Int) / 256) = ((n / 256 : Nat) : Int) := by rw [IntKind.wrap_u64]; omega
      have e2 : ((n : Int).tmod 256) = ((n % 256 : Nat) : Int) := by rw [Int.tmod_eq_emod_of_nonneg (by omega)]; omega
      have hr : n % 256 < 256 := by omega
      have IH := Lib.hid (fun W : World => ih (n / 256) W hd (by omega))
      have hl := high_len (n / 256)
      clear hd h ih
      generalize n / 256 = m at e1 IH HP hl
      generalize n % 256 = r at e2 HP hr
      have e3 : IntKind.u8.wrap (r : Int) = (r : Int) := by rw [IntKind.wrap_u8]; omega
      have hne : ((n : Int) == 0) = false := by simp; omega
      go_enter Try.func93, Try.ntmps93
      go_wp2_with fail
      clear hn h0
      have hcv := conv1 r hr
      go_region_with (go_at_call 93; refine (IH.out _).mono ?_; rintro e w1 ⟨rfl, hb⟩; obtain ⟨hc1, hf1⟩ := bcell hb; have hz1 := hb.size)
      all_goals
        go_wp2_with fail
        go_ret
        refine ⟨ret_str ?_, ?_⟩
        · rw [HP.out]; exact str_app2 _ _
        · first | exact Below.alloc (thenB (w1 := w.drew) (Below.refl _ _).drew hb) (by simpa using hb.size) _ | exact thenB (w1 := w.drew.alloc _) ((Below.refl _ _).drew.alloc (by simp) _) hb
set_option maxHeartbeats 2000000 in
theorem refPut_any (n : Nat) (hn : n < 18446744073709551616) (w : World) : Calls Try.prog 68 #[.int .u64 n] w fun e w' => e = .returned (.string ⟨(put n).toArray⟩) ∧ Below w.heap.size w w' := by
  have hl := high_len n
  have hw := high_length n
  have hw8 := width_le n
  have HW := Lib.hid hw
  clear hw
  have hc := conv1 (high n).length (by omega)
  go_enter Try.func68, Try.ntmps68
  go_wp2_with fail
  refine (high_any 8 n _ (by omega) hn).mono ?_; rintro e w1 ⟨rfl, hb⟩
  go_wp2_with fail
  go_ret
  exact ⟨ret_str (by rw [show (⟨#[UInt8.ofNat (high n).length]⟩ : ByteArray) = ⟨([UInt8.ofNat (high n).length] : List UInt8).toArray⟩ from rfl, str_app2, HW.out]; rfl), hb.alloc hb.size _⟩
set_option maxHeartbeats 2000000 in
theorem refText_any (s : ByteArray) (hs : s.size ≤ 140737488351232) (w : World) : Calls Try.prog 94 #[.string s] w fun e w' => e = .returned (.string ⟨(text s.data.toList).toArray⟩) ∧ Below w.heap.size w w' := by
  go_enter Try.func94, Try.ntmps94
  go_wp2_with fail
  refine (refPut_any _ (by omega) _).mono ?_; rintro e w1 ⟨rfl, hb⟩
  have hp := put_len s.size
  go_wp2_with fail
  go_ret
  exact ⟨ret_str (by rw [str_app]; simp [text]), hb⟩
end Go.Proofs.Ytjohfkpgghnpeaa.NumC
end
