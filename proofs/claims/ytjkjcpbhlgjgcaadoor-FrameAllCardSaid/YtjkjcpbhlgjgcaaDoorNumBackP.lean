/- What was put is taken again: the plain law of chapter 1 (no Go in it). -/
import Derived.Test.YtjkjcpbhlgjgcaaDoorNumPure
namespace Go.Proofs.YtjkjcpbhlgjgcaaDoor.Num
theorem take_app (a b : List UInt8) (e : Nat) : R.take ⟨a ++ b, e⟩ (a.length : Nat) = (⟨b, e⟩, a) := by
  unfold R.take
  dsimp only
  rw [if_neg (by simp; omega)]
  simp
theorem ofNat_small {n : Nat} (h : n < 256) : (UInt8.ofNat n).toNat = n := by simp; omega
theorem num_back (n limit : Nat) (rest : List UInt8) (hn : n < 18446744073709551616) (hl : n ≤ limit) : R.num ⟨put n ++ rest, 0⟩ limit = (⟨rest, 0⟩, n) := by
  have hw := width_le n
  have e1 : R.take ⟨put n ++ rest, 0⟩ 1 = (⟨high n ++ rest, 0⟩, [UInt8.ofNat (width n)]) := take_app [UInt8.ofNat (width n)] (high n ++ rest) 0
  have e2 : R.take ⟨high n ++ rest, 0⟩ (width n : Nat) = (⟨rest, 0⟩, high n) := by rw [← high_length]; exact take_app _ _ _
  unfold R.num
  rw [e1]
  dsimp only
  rw [ofNat_small (by omega), if_neg (by omega), e2]
  dsimp only
  rw [if_neg (by decide), value_high n hn, high_length, if_neg (by omega)]
theorem int_back (n : Nat) (limit : Int) (rest : List UInt8) (hn : n < 18446744073709551616) (hl : (n : Int) ≤ limit) : R.int ⟨put n ++ rest, 0⟩ limit = (⟨rest, 0⟩, (n : Int)) := by
  unfold R.int
  rw [num_back n _ rest hn (by omega)]
theorem text_back (s : List UInt8) (limit : Int) (rest : List UInt8) (h1 : (s.length : Int) ≤ limit) (h2 : s.length ≤ 65536) : R.text ⟨text s ++ rest, 0⟩ limit = (⟨rest, 0⟩, s) := by
  unfold R.text text
  rw [List.append_assoc, int_back s.length _ _ (by omega) (by omega)]
  exact take_app _ _ _
theorem word_back (n : Nat) (rest : List UInt8) (hn : n < 4294967296) : R.word ⟨word n ++ rest, 0⟩ = (⟨rest, 0⟩, n) := by
  have e : R.take ⟨word n ++ rest, 0⟩ 4 = (⟨rest, 0⟩, word n) := take_app (word n) rest 0
  unfold R.word
  rw [e]
  dsimp only
  unfold word
  rw [value_bigs, Nat.mod_eq_of_lt (by omega)]
theorem bool_back (b : Bool) (rest : List UInt8) : R.bool ⟨bool b ++ rest, 0⟩ = (⟨rest, 0⟩, b) := by
  cases b
  · have e : R.take ⟨bool false ++ rest, 0⟩ 1 = (⟨rest, 0⟩, [110]) := take_app [110] rest 0
    unfold R.bool
    rw [e, if_pos (Or.inr rfl)]
    rfl
  · have e : R.take ⟨bool true ++ rest, 0⟩ 1 = (⟨rest, 0⟩, [121]) := take_app [121] rest 0
    unfold R.bool
    rw [e, if_pos (Or.inl rfl)]
    rfl
theorem ints_back (limit : Int) (hlim : limit < 9223372036854775808) : ∀ (l : List Int) (rest : List UInt8), (∀ x ∈ l, 0 ≤ x ∧ x ≤ limit) → R.ints ⟨(l.flatMap fun n => put (max n 0).toNat) ++ rest, 0⟩ limit l.length = (⟨rest, 0⟩, l) := by
  intro l
  induction l with
  | nil => intro rest _; rfl
  | cons a l ih =>
    intro rest h
    have ha := h a (List.mem_cons_self ..)
    have e : R.int ⟨((a :: l).flatMap fun n => put (max n 0).toNat) ++ rest, 0⟩ limit = (⟨(l.flatMap fun n => put (max n 0).toNat) ++ rest, 0⟩, a) := by
      rw [List.flatMap_cons, List.append_assoc, int_back _ _ _ (by omega) (by omega)]
      congr 1
      omega
    rw [List.length_cons, R.ints, e]
    dsimp only
    rw [ih rest (fun x hx => h x (List.mem_cons_of_mem _ hx))]
theorem list_back (many limit : Int) (hlim : limit < 9223372036854775808) (l : List Int) (rest : List UInt8) (hm : (l.length : Int) ≤ many) (hm2 : l.length < 18446744073709551616) (h : ∀ x ∈ l, 0 ≤ x ∧ x ≤ limit) :
    R.list ⟨list l ++ rest, 0⟩ many limit = (⟨rest, 0⟩, l) := by
  have e : R.int ⟨list l ++ rest, 0⟩ many = (⟨(l.flatMap fun n => put (max n 0).toNat) ++ rest, 0⟩, (l.length : Int)) := by
    unfold list
    rw [List.append_assoc, int_back _ _ _ hm2 hm]
  unfold R.list
  rw [e]
  dsimp only
  rw [Int.toNat_natCast, ints_back limit hlim l rest h]
  rfl
/-- One byte more than a number needs: it is none. -/
theorem num_long (m : Nat) (hm : m < 72057594037927936) : R.num ⟨UInt8.ofNat ((high m).length + 1) :: 0 :: high m, 0⟩ 18446744073709551615 = (⟨[], 3⟩, 0) := by
  have hw : width m ≤ 7 := by
    rcases Nat.lt_or_ge 7 (width m) with h | h
    · exfalso
      have h0 : 0 < m := by
        rcases Nat.eq_zero_or_pos m with h0 | h0
        · subst h0; rw [width_zero] at h; omega
        · exact h0
      have : ∀ f k n, n < 256 ^ k → widthF f n ≤ k := by
        intro f
        induction f with
        | zero => intro k n _; simp [widthF]
        | succ f ih =>
          intro k n hk
          rw [widthF]
          split
          · omega
          · cases k with
            | zero => simp at hk; omega
            | succ k =>
              have := ih k (n / 256) (by rw [Nat.pow_succ] at hk; exact Nat.div_lt_of_lt_mul (by omega))
              omega
      have := this 8 7 m (by omega)
      unfold width at h
      omega
    · exact h
  have hl := high_length m
  have e1 : R.take ⟨UInt8.ofNat ((high m).length + 1) :: 0 :: high m, 0⟩ 1 = (⟨0 :: high m, 0⟩, [UInt8.ofNat ((high m).length + 1)]) := take_app [UInt8.ofNat ((high m).length + 1)] (0 :: high m) 0
  have e2 : R.take ⟨0 :: high m, 0⟩ ((high m).length + 1 : Nat) = (⟨[], 0⟩, 0 :: high m) := by
    have := take_app (0 :: high m) [] 0
    rw [List.append_nil] at this
    exact this
  unfold R.num
  rw [e1]
  dsimp only
  rw [ofNat_small (by omega), if_neg (by omega), e2]
  dsimp only
  have hne : width (value (0 :: high m)) ≠ (0 :: high m).length := fun h => (width_value (0 :: high m) (by simp; omega)).1 h ⟨_, rfl⟩
  rw [if_neg (by decide), if_pos (Or.inl hne)]
  rfl
end Go.Proofs.YtjkjcpbhlgjgcaaDoor.Num
