/- Layer 5 in plain Lean: a word laid with any greater number. -/
import Derived.Test.YtfacifhlcaghiaaSupH
import Derived.BigRegion
import Derived.Deep.CutBlock
namespace Go.Proofs.Ytfacifhlcaghiaa.Sup
open Go Go.RowKit
open Go.Proofs.Ytfacifhlcaghiaa.Gen
open Go.Proofs.Ytfacifhlcaghiaa.Own
open Go.Proofs.Ytfacifhlcaghiaa.RowK
open Go.Proofs.Ytfacifhlcaghiaa.Num
open Go.Proofs.Ytfacifhlcaghiaa.NumC
open Go.Proofs.Ytfacifhlcaghiaa.Dsk
set_option linter.unusedVariables false
set_option linter.unusedSimpArgs false
/-- A word laid, of any greater number: sure, lost or torn. -/
theorem Two.layG {S : List Sec} {a : Nat} {t : Sec} {M M' : Nat} (h : Two S a t M) {w : Sec} (hw : w.length ≤ 48) (f : Nat) {n : Nat} (h0 : n ≠ 0) (hn : n < 18446744073709551616) (hMM : M ≤ M') (k2 : n ≤ M') (hb2 : ∀ j, j < 2 → (numS (S.getD j [])).1 < n ∧ (numS (S.getD j [])).2 < n) (k4 : a ≠ 0 → n % 2 ≠ a % 2) :
    Two (S.set (n % 2) (keptL f (S.getD (n % 2) []) (putL n w))) (if f = 1 then n else a) (if f = 1 then padW w else t) M' := by
  have hj2 : n % 2 < 2 := by omega
  have hold := h.at hj2
  have hlt := hb2 _ hj2
  have hl := h.len
  have hkn := kept_nums (f := f) hold h0 hn hw
  have hkg := kept_get (f := f) hold h0 hn hw (by omega) (by omega)
  have hkl : (keptL f (S.getD (n % 2) []) (putL n w)).length = 64 := keptL_len hold (putL_len h0 hw)
  generalize keptL f (S.getD (n % 2) []) (putL n w) = y at hkn hkg hkl
  have hg := fun j => getD_setS S (n % 2) j y (by omega)
  refine ⟨by rw [List.length_set]; exact hl, sz_set h.sz hkl _, fun j hj => ?_, fun e => ?_, fun e => ?_⟩
  · rw [hg]
    by_cases hjn : j = n % 2
    · rw [if_pos hjn, hkn]
      split
      · exact ⟨by show n ≤ _; omega, by show n ≤ _; omega⟩
      · split
        · exact ⟨by show n ≤ _; omega, by show (numS _).2 ≤ _; omega⟩
        · split
          · exact ⟨by show (numS _).1 ≤ _; omega, by show n ≤ _; omega⟩
          · exact ⟨by omega, by omega⟩
    · rw [if_neg hjn]
      have := h.nums j hj
      omega
  · by_cases hf : f = 1
    · rw [if_pos hf] at e
      omega
    · rw [if_neg hf] at e ⊢
      obtain ⟨e1, e2⟩ := h.none e
      refine ⟨e1, fun j hj => ?_⟩
      rw [hg]
      by_cases hjn : j = n % 2
      · rw [if_pos hjn, hkg, if_neg hf]
        split
        · rfl
        · exact e2 _ hj2
      · rw [if_neg hjn]
        exact e2 j hj
  · by_cases hf : f = 1
    · rw [if_pos hf, if_pos hf, hg, if_pos rfl, hkg, if_pos hf]
      refine ⟨rfl, fun j hj hjn => ?_⟩
      rw [hg, if_neg hjn]
      have h1 := getS_le (S.getD j [])
      have h2 := (hb2 j hj).1
      omega
    · rw [if_neg hf] at e ⊢
      rw [if_neg hf]
      obtain ⟨e1, e2⟩ := h.some e
      have hp := k4 e
      refine ⟨by rw [hg, if_neg (Ne.symm hp)]; exact e1, fun j hj hjn => ?_⟩
      rw [hg]
      by_cases hjn2 : j = n % 2
      · rw [if_pos hjn2, hkg, if_neg hf]
        split
        · show 0 < a; omega
        · exact e2 _ hj2 hp
      · rw [if_neg hjn2]
        exact e2 j hj hjn
theorem two_first {a : Nat} (h0 : a ≠ 0) (ha : a < 16777216) {w : Sec} (hw : w.length ≤ 48) : Two (syncL (List.replicate 3 blankL) [⟨((0 : Nat) : Int) + (a : Int) % 2, putL a w⟩]) a (padW w) 16777216 := by
  have h := two_blank 3 (by omega)
  have q := h.layG (M' := 16777216) hw 1 h0 (by omega) (by omega) (by omega) (fun j hj => by have := h.nums j hj; omega) (fun e => absurd rfl e)
  rw [if_pos rfl, if_pos rfl, ← sync_one] at q
  exact q
theorem Two.up {S : List Sec} {a : Nat} {t : Sec} {M M' : Nat} (h : Two S a t M) (hM : M ≤ M') : Two S a t M' := ⟨h.len, h.sz, fun j hj => by have := h.nums j hj; omega, h.none, h.some⟩
end Go.Proofs.Ytfacifhlcaghiaa.Sup
