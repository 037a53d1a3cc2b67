/- Contracts of the reference of layer 1, what is put: High, Put, Word, Text, Bool, List. -/
import Derived.Test.YtfacifhlcaghiaaNumC1
import Derived.Outline
import Derived.Laws.BytesArg
namespace Go.Proofs.Ytfacifhlcaghiaa.NumC
open Go Go.RowKit
open Go.Proofs.Ytfacifhlcaghiaa.Gen
open Go.Proofs.Ytfacifhlcaghiaa.Num
set_option linter.unusedVariables false

theorem bcell {W w1 : World} (hb : Below W.heap.size W w1) : (∀ b o, b < W.heap.size → w1.cell? ⟨b, o, none⟩ = W.cell? ⟨b, o, none⟩) ∧ (∀ b o, b < W.heap.size → w1.frozen? ⟨b, o, none⟩ = W.frozen? ⟨b, o, none⟩) :=
  ⟨fun b o h => hb.cell (p := ⟨b, o, none⟩) h, fun b o h => hb.frozen (p := ⟨b, o, none⟩) h⟩
/-- One byte as a text. -/
theorem conv1 (r : Nat) (hr : r < 256) (W : World) (g : Nat) (h : W.cell? ⟨g, 0, none⟩ = some (.int .u8 (r : Int))) :
    (convert 54 9 (.slice (some ⟨g, 0, none⟩) 1 1)).run Try.prog W = .ok (.string ⟨#[UInt8.ofNat r]⟩) W := by
  have := run_convert_bytes_arg (P := Try.prog) W 54 5 Try.underlying54 Try.underlying5 g 0 1 1 [(r : Int)] rfl (fun i hi => by
    obtain rfl : i = 0 := by omega
    simpa using h) 9 Try.underlying9
  rw [this]
  simp [strOfNums]

/-! ### the reference -/
theorem high_len (n : Nat) : (high n).length ≤ 8 := by rw [high_length]; exact width_le n
set_option maxHeartbeats 2000000 in
theorem high_any (f : Nat) : ∀ (n : Nat) (w : World), n < 256 ^ f → n < 18446744073709551616 → Calls Try.prog 78 #[.int .u64 n] w fun e w' => e = .returned (.string ⟨(high n).toArray⟩) ∧ Below w.heap.size w w' := by
  induction f with
  | zero =>
    intro n w h hn
    obtain rfl : n = 0 := by simpa using h
    go_enter Try.func78, Try.ntmps78
    go_wp2_with fail
    go_ret
    exact ⟨rfl, Below.refl _ _⟩
  | succ f ih =>
    intro n w h hn
    by_cases h0 : n = 0
    · subst h0
      go_enter Try.func78, Try.ntmps78
      go_wp2_with fail
      go_ret
      exact ⟨rfl, Below.refl _ _⟩
    · have HP := Lib.hid (high_pos (by omega) hn)
      have hd : n / 256 < 256 ^ f := by rw [Nat.pow_succ] at h; exact Nat.div_lt_of_lt_mul (by omega)
      have e1 : IntKind.u64.wrap ((n : Int) / 256) = ((n / 256 : Nat) : Int) := by rw [IntKind.wrap_u64]; omega
      have e2 : ((n : Int).tmod 256) = ((n % 256 : Nat) : Int) := by rw [Int.tmod_eq_emod_of_nonneg (by omega)]; omega
      have hr : n % 256 < 256 := by omega
      have IH := Lib.hid (fun W : World => ih (n / 256) W hd (by omega))
      have hl := high_len (n / 256)
      clear hd h ih
      generalize n / 256 = m at e1 IH HP hl
      generalize n % 256 = r at e2 HP hr
      have e3 : IntKind.u8.wrap (r : Int) = (r : Int) := by rw [IntKind.wrap_u8]; omega
      have hne : ((n : Int) == 0) = false := by simp; omega
      go_enter Try.func78, Try.ntmps78
      go_wp2_with fail
      clear hn h0
      have hcv := conv1 r hr
      go_region_with (go_at_call 78; refine (IH.out _).mono ?_; rintro e w1 ⟨rfl, hb⟩; obtain ⟨hc1, hf1⟩ := bcell hb; have hz1 := hb.size)
      all_goals
        go_wp2_with fail
        go_ret
        refine ⟨ret_str ?_, ?_⟩
        · rw [HP.out]; exact str_app2 _ _
        · first | exact Below.alloc (thenB (w1 := w.drew) (Below.refl _ _).drew hb) (by simpa using hb.size) _ | exact thenB (w1 := w.drew.alloc _) ((Below.refl _ _).drew.alloc (by simp) _) hb
set_option maxHeartbeats 2000000 in
theorem refPut_any (n : Nat) (hn : n < 18446744073709551616) (w : World) : Calls Try.prog 68 #[.int .u64 n] w fun e w' => e = .returned (.string ⟨(put n).toArray⟩) ∧ Below w.heap.size w w' := by
  have hl := high_len n
  have hw := high_length n
  have hw8 := width_le n
  have HW := Lib.hid hw
  clear hw
  have hc := conv1 (high n).length (by omega)
  go_enter Try.func68, Try.ntmps68
  go_wp2_with fail
  refine (high_any 8 n _ (by omega) hn).mono ?_; rintro e w1 ⟨rfl, hb⟩
  go_wp2_with fail
  go_ret
  exact ⟨ret_str (by rw [show (⟨#[UInt8.ofNat (high n).length]⟩ : ByteArray) = ⟨([UInt8.ofNat (high n).length] : List UInt8).toArray⟩ from rfl, str_app2, HW.out]; rfl), hb.alloc hb.size _⟩
theorem word_high (n : Nat) (hn : n < 4294967296) : (high n).length ≤ 4 ∧ word n = List.replicate (4 - (high n).length) 0 ++ high n := by
  have h1 := width_lt n (by omega)
  have h2 : width n ≤ 4 := by
    have h3 := width_le n
    rcases Nat.lt_or_ge 4 (width n) with h | h
    · exfalso
      have hlow : ∀ f m k, k < widthF f m → 256 ^ k ≤ m := by
        intro f
        induction f with
        | zero => intro m k h; simp [widthF] at h
        | succ f ih =>
          intro m k h
          rw [widthF] at h
          split at h
          · omega
          · cases k with
            | zero => simp; omega
            | succ k =>
              have := ih (m / 256) k (by omega)
              rw [Nat.pow_succ]
              omega
      have := hlow 8 n 4 h
      omega
    · exact h
  rw [high_length]
  refine ⟨h2, ?_⟩
  have := bigs_pad n (width n) (4 - width n) h1
  rw [show width n + (4 - width n) = 4 by omega] at this
  exact this
end Go.Proofs.Ytfacifhlcaghiaa.NumC
