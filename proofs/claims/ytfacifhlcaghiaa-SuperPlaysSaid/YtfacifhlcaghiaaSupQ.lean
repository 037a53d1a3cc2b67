/- Layer 5 in plain Lean: two sectors, the word laid last, the next number, a failure while a word is laid. -/
import Derived.Test.YtfacifhlcaghiaaSupI
namespace Go.Proofs.Ytfacifhlcaghiaa.Sup
open Go Go.RowKit
open Go.Proofs.Ytfacifhlcaghiaa.Gen
open Go.Proofs.Ytfacifhlcaghiaa.Own
open Go.Proofs.Ytfacifhlcaghiaa.RowK
open Go.Proofs.Ytfacifhlcaghiaa.Num
open Go.Proofs.Ytfacifhlcaghiaa.NumC
open Go.Proofs.Ytfacifhlcaghiaa.Dsk
set_option linter.unusedVariables false
set_option linter.unusedSimpArgs false
theorem best_le {g acc : Nat × Sec × Bool} (h : g.1 ≤ acc.1) : best g acc = acc := if_neg (fun e => by omega)
theorem best_fst {g acc : Nat × Sec × Bool} {n : Nat} (h1 : g.1 < n) (h2 : acc.1 < n) : (best g acc).1 < n := by
  unfold best
  split
  · exact h1
  · exact h2
theorem secR_get (S : List Sec) (j : Nat) (h : j < S.length) : secR S [] ((0 : Int) + (j : Int)) = S.getD j [] := by
  unfold secR
  rw [if_pos (by omega), show ((0 : Int) + (j : Int)).toNat = j by omega]
  rfl
/-- What of the two sectors is known: the number of the last whole word (0: none), it, and a bound of all numbers. -/
structure Two (S : List Sec) (at' : Nat) (last : Sec) (M : Nat) : Prop where
  len : 2 ≤ S.length
  sz : ∀ s ∈ S, s.length = 64
  nums : ∀ j, j < 2 → (numS (S.getD j [])).1 ≤ M ∧ (numS (S.getD j [])).2 ≤ M
  none : at' = 0 → last = [] ∧ ∀ j, j < 2 → getS (S.getD j []) = (0, [], false)
  some : at' ≠ 0 → getS (S.getD (at' % 2) []) = (at', last, true) ∧ ∀ j, j < 2 → j ≠ at' % 2 → (getS (S.getD j [])).1 < at'
theorem Two.at {S : List Sec} {a : Nat} {t : Sec} {M : Nat} (h : Two S a t M) {j : Nat} (hj : j < 2) : (S.getD j []).length = 64 := getD_sz h.sz (by have := h.len; omega)
theorem numS_64 {s : Sec} (h : s.length = 64) : numS s = (n8 s, n8 (s.drop 32)) := if_pos h
theorem getS_64 {s : Sec} (h : s.length = 64) : getS s = if (numS s).1 = 0 ∨ (numS s).1 ≠ (numS s).2 then (0, [], false) else ((numS s).1, (s.take 32).drop 8 ++ (s.drop 32).drop 8, true) := by
  rw [numS_64 h]
  exact if_pos h
theorem getS_le (s : Sec) : (getS s).1 ≤ (numS s).1 := by
  by_cases h : s.length = 64
  · rw [getS_64 h]
    split
    · exact Nat.zero_le _
    · exact Nat.le_refl _
  · rw [getS, if_neg h]
    exact Nat.zero_le _
theorem Two.le {S : List Sec} {a : Nat} {t : Sec} {M : Nat} (h : Two S a t M) : a ≤ M := by
  by_cases h0 : a = 0
  · omega
  · have h1 := (h.some h0).1
    have h2 := getS_le (S.getD (a % 2) [])
    have h3 := (h.nums (a % 2) (by omega)).1
    rw [h1] at h2
    exact Nat.le_trans h2 h3
/-- What is read. -/
theorem Two.read {S : List Sec} {a : Nat} {t : Sec} {M : Nat} (h : Two S a t M) : readS S [] 0 = (a, t, decide (a ≠ 0)) := by
  have hl := h.len
  unfold readS
  rw [if_neg (by omega)]
  show best (getS (secR S [] ((0 : Int) + ((1 : Nat) : Int)))) (best (getS (secR S [] ((0 : Int) + ((0 : Nat) : Int)))) (0, [], false)) = _
  rw [secR_get S 1 (by omega), secR_get S 0 (by omega)]
  by_cases h0 : a = 0
  · obtain ⟨rfl, h1⟩ := h.none h0
    subst h0
    rw [h1 0 (by omega), h1 1 (by omega)]
    rfl
  · obtain ⟨h1, h2⟩ := h.some h0
    have hd : decide (a ≠ 0) = true := decide_eq_true h0
    rw [hd]
    rcases (by omega : a % 2 = 0 ∨ a % 2 = 1) with hp | hp
    · rw [hp] at h1 h2
      have h3 := h2 1 (by omega) (by omega)
      rw [h1, best_yes (show (0, ([] : Sec), false).1 < a by show 0 < a; omega), best_le (show _ ≤ (a, t, true).1 by show _ ≤ a; omega)]
    · rw [hp] at h1 h2
      have h3 := h2 0 (by omega) (by omega)
      rw [h1, best_yes (best_fst h3 (show (0, ([] : Sec), false).1 < a by show 0 < a; omega))]
theorem Two.best {S : List Sec} {a : Nat} {t : Sec} {M : Nat} (h : Two S a t M) : bestN S [] 0 2 ≤ M ∧ ∀ j, j < 2 → (numS (S.getD j [])).1 ≤ bestN S [] 0 2 ∧ (numS (S.getD j [])).2 ≤ bestN S [] 0 2 := by
  have hl := h.len
  have e : bestN S [] 0 2 = max (max (max (max 0 (numS (S.getD 0 [])).1) (numS (S.getD 0 [])).2) (numS (S.getD 1 [])).1) (numS (S.getD 1 [])).2 := by
    show max (max (max (max 0 (numS (secR S [] ((0 : Int) + ((0 : Nat) : Int)))).1) (numS (secR S [] ((0 : Int) + ((0 : Nat) : Int)))).2) (numS (secR S [] ((0 : Int) + ((1 : Nat) : Int)))).1) (numS (secR S [] ((0 : Int) + ((1 : Nat) : Int)))).2 = _
    rw [secR_get S 1 (by omega), secR_get S 0 (by omega)]
  have h0 := h.nums 0 (by omega)
  have h1 := h.nums 1 (by omega)
  rw [e]
  refine ⟨by omega, fun j hj => ?_⟩
  rcases (by omega : j = 0 ∨ j = 1) with rfl | rfl
  · omega
  · omega
/-- The next number. -/
theorem Two.next {S : List Sec} {a : Nat} {t : Sec} {M : Nat} (h : Two S a t M) :
    bestN S [] 0 2 < nextN S [] 0 ∧ nextN S [] 0 ≤ M + 2 ∧ (a = 0 → nextN S [] 0 = bestN S [] 0 2 + 1) ∧ (a ≠ 0 → nextN S [] 0 % 2 ≠ a % 2 ∧ a < nextN S [] 0) ∧ nextN S [] 0 = if 0 < a ∧ (bestN S [] 0 2 + 1) % 2 = a % 2 then bestN S [] 0 2 + 2 else bestN S [] 0 2 + 1 := by
  have hb := h.best
  have hr := h.read
  have ha : a ≤ bestN S [] 0 2 := by
    by_cases h0 : a = 0
    · omega
    · have h1 := (h.some h0).1
      have h2 := getS_le (S.getD (a % 2) [])
      have h3 := (hb.2 (a % 2) (by omega)).1
      rw [h1] at h2
      exact Nat.le_trans h2 h3
  have e : nextN S [] 0 = if 0 < a ∧ (bestN S [] 0 2 + 1) % 2 = a % 2 then bestN S [] 0 2 + 2 else bestN S [] 0 2 + 1 := by
    unfold nextN
    rw [hr]
    by_cases h0 : a = 0
    · rw [if_neg (by simp [h0]), if_neg (by omega)]
    · have hd : decide (a ≠ 0) = true := decide_eq_true h0
      rw [hd]
      by_cases hp : (bestN S [] 0 2 + 1) % 2 = a % 2
      · rw [if_pos ⟨rfl, hp⟩, if_pos ⟨by omega, hp⟩]
      · rw [if_neg (fun x => hp x.2), if_neg (fun x => hp x.2)]
  rw [e]
  generalize bestN S [] 0 2 = b at hb ha ⊢
  by_cases hc : 0 < a ∧ (b + 1) % 2 = a % 2
  · rw [if_pos hc]
    exact ⟨by omega, by omega, fun _ => by omega, fun _ => ⟨by omega, by omega⟩, rfl⟩
  · rw [if_neg hc]
    exact ⟨by omega, by omega, fun _ => by omega, fun _ => ⟨by omega, by omega⟩, rfl⟩
theorem getD_setS (S : List Sec) (i j : Nat) (y : Sec) (h : i < S.length) : (S.set i y).getD j [] = if j = i then y else S.getD j [] := by
  rw [List.getD_eq_getElem?_getD, List.getElem?_set]
  by_cases hj : i = j
  · subst hj
    rw [if_pos rfl, if_pos rfl, if_pos h]
    rfl
  · rw [if_neg hj, if_neg (Ne.symm hj), List.getD_eq_getElem?_getD]
theorem crash_one (f : Int) (S : List Sec) (n : Nat) (x : Sec) : crashL f S [⟨((0 : Nat) : Int) + (n : Int) % 2, x⟩] = S.set (n % 2) (keptL (fate f 0) (S.getD (n % 2) []) x) := by
  show (S.set (((0 : Nat) : Int) + (n : Int) % 2).toNat (keptL (fate f 0) (S.getD (((0 : Nat) : Int) + (n : Int) % 2).toNat []) x)) = _
  rw [show (((0 : Nat) : Int) + (n : Int) % 2).toNat = n % 2 by omega]
theorem sync_one (S : List Sec) (n : Nat) (x : Sec) : syncL S [⟨((0 : Nat) : Int) + (n : Int) % 2, x⟩] = S.set (n % 2) (keptL 1 (S.getD (n % 2) []) x) := by
  show S.set (((0 : Nat) : Int) + (n : Int) % 2).toNat x = _
  rw [show (((0 : Nat) : Int) + (n : Int) % 2).toNat = n % 2 by omega]
  rfl
theorem n8_half {s t : Sec} (h : s.length = 64) : n8 (s.take 32 ++ t) = n8 s ∧ (s.take 32 ++ t).drop 32 = t := by
  have la : (s.take 32).length = 32 := by rw [List.length_take]; omega
  refine ⟨?_, List.drop_left' la⟩
  rw [← n8_take, List.take_left' la, n8_take]
/-- A sector upon which a word was laid, or torn. -/
theorem kept_nums {f n : Nat} {old w : Sec} (h : old.length = 64) (h0 : n ≠ 0) (hn : n < 18446744073709551616) (hw : w.length ≤ 48) :
    numS (keptL f old (putL n w)) = if f = 1 then (n, n) else if f = 2 then (n, (numS old).2) else if f = 3 then ((numS old).1, n) else numS old := by
  have hl := putL_len h0 hw
  have h8 := n8_putL h0 hn hw
  rw [numS_64 (keptL_len h hl), numS_64 h]
  unfold keptL
  by_cases h1 : f = 1
  · rw [if_pos h1, if_pos h1, h8.1, h8.2]
  · rw [if_neg h1, if_neg h1]
    by_cases h2 : f = 2
    · rw [if_pos h2, if_pos h2, (n8_half hl).1, (n8_half hl).2, h8.1]
    · rw [if_neg h2, if_neg h2]
      by_cases h3 : f = 3
      · rw [if_pos h3, if_pos h3, (n8_half h).1, (n8_half h).2, h8.2]
      · rw [if_neg h3, if_neg h3]
theorem kept_get {f n : Nat} {old w : Sec} (h : old.length = 64) (h0 : n ≠ 0) (hn : n < 18446744073709551616) (hw : w.length ≤ 48) (h1 : (numS old).1 < n) (h2 : (numS old).2 < n) :
    getS (keptL f old (putL n w)) = if f = 1 then (n, padW w, true) else if f = 2 ∨ f = 3 then (0, [], false) else getS old := by
  by_cases e1 : f = 1
  · rw [if_pos e1, show keptL f old (putL n w) = putL n w from if_pos e1]
    exact get_put h0 hn hw
  · rw [if_neg e1]
    have hl := putL_len h0 hw
    by_cases e2 : f = 2 ∨ f = 3
    · rw [if_pos e2, getS_64 (keptL_len h hl), kept_nums h h0 hn hw, if_neg e1]
      rcases e2 with e | e
      · rw [if_pos e, if_pos (.inr (by show n ≠ (numS old).2; omega))]
      · rw [if_neg (show ¬ f = 2 by omega), if_pos e, if_pos (.inr (by show (numS old).1 ≠ n; omega))]
    · rw [if_neg e2, show keptL f old (putL n w) = old by unfold keptL; rw [if_neg e1, if_neg (by omega), if_neg (by omega)]]
/-- A word laid: sure, lost or torn. -/
theorem Two.lay {S : List Sec} {a : Nat} {t : Sec} {M : Nat} (h : Two S a t M) (hM : M + 2 < 18446744073709551616) {w : Sec} (hw : w.length ≤ 48) (f : Nat) {n : Nat} (hne : n = nextN S [] 0) :
    Two (S.set (n % 2) (keptL f (S.getD (n % 2) []) (putL n w))) (if f = 1 then n else a) (if f = 1 then padW w else t) (M + 2) := by
  obtain ⟨k1, k2, k3, k4, _⟩ := h.next
  rw [← hne] at k1 k2 k3 k4
  have hb := h.best
  have h0 : n ≠ 0 := by omega
  have hn : n < 18446744073709551616 := by omega
  have hj2 : n % 2 < 2 := by omega
  have hold := h.at hj2
  have hlt := hb.2 _ hj2
  have hl := h.len
  have hkn := kept_nums (f := f) hold h0 hn hw
  have hkg := kept_get (f := f) hold h0 hn hw (by omega) (by omega)
  have hkl : (keptL f (S.getD (n % 2) []) (putL n w)).length = 64 := keptL_len hold (putL_len h0 hw)
  generalize keptL f (S.getD (n % 2) []) (putL n w) = y at hkn hkg hkl
  have hg := fun j => getD_setS S (n % 2) j y (by omega)
  refine ⟨by rw [List.length_set]; exact hl, sz_set h.sz hkl _, fun j hj => ?_, fun e => ?_, fun e => ?_⟩
  · rw [hg]
    by_cases hjn : j = n % 2
    · rw [if_pos hjn, hkn]
      split
      · exact ⟨by show n ≤ _; omega, by show n ≤ _; omega⟩
      · split
        · exact ⟨by show n ≤ _; omega, by show (numS _).2 ≤ _; omega⟩
        · split
          · exact ⟨by show (numS _).1 ≤ _; omega, by show n ≤ _; omega⟩
          · exact ⟨by omega, by omega⟩
    · rw [if_neg hjn]
      have := h.nums j hj
      omega
  · by_cases hf : f = 1
    · rw [if_pos hf] at e
      omega
    · rw [if_neg hf] at e ⊢
      obtain ⟨e1, e2⟩ := h.none e
      refine ⟨e1, fun j hj => ?_⟩
      rw [hg]
      by_cases hjn : j = n % 2
      · rw [if_pos hjn, hkg, if_neg hf]
        split
        · rfl
        · exact e2 _ hj2
      · rw [if_neg hjn]
        exact e2 j hj
  · by_cases hf : f = 1
    · rw [if_pos hf, if_pos hf, hg, if_pos rfl, hkg, if_pos hf]
      refine ⟨rfl, fun j hj hjn => ?_⟩
      rw [hg, if_neg hjn]
      have h1 := getS_le (S.getD j [])
      have h2 := (hb.2 j hj).1
      omega
    · rw [if_neg hf] at e ⊢
      rw [if_neg hf]
      obtain ⟨e1, e2⟩ := h.some e
      have hp := (k4 e).1
      refine ⟨by rw [hg, if_neg (Ne.symm hp)]; exact e1, fun j hj hjn => ?_⟩
      rw [hg]
      by_cases hjn2 : j = n % 2
      · rw [if_pos hjn2, hkg, if_neg hf]
        split
        · show 0 < a; omega
        · exact e2 _ hj2 hp
      · rw [if_neg hjn2]
        exact e2 j hj hjn
/-- Blank sectors. -/
theorem two_blank (m : Nat) (h : 2 ≤ m) : Two (List.replicate m blankL) 0 [] 0 := by
  have hg : ∀ j, j < 2 → (List.replicate m blankL).getD j [] = blankL := fun j hj => by
    rw [List.getD_eq_getElem?_getD, List.getElem?_replicate, if_pos (by omega)]
    rfl
  have hn : numS blankL = (0, 0) := by decide +kernel
  refine ⟨by rw [List.length_replicate]; exact h, fun s hs => by rw [(List.mem_replicate.1 hs).2]; exact List.length_replicate, fun j hj => ?_, fun _ => ⟨rfl, fun j hj => ?_⟩, fun e => absurd rfl e⟩
  · rw [hg j hj, hn]
    exact ⟨Nat.le_refl _, Nat.le_refl _⟩
  · rw [hg j hj, getS_blank]
end Go.Proofs.Ytfacifhlcaghiaa.Sup
