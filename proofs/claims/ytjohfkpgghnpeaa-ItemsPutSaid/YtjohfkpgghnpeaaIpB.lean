-- packed by pack.py, a program of this claim's repo
section
namespace Go.Proofs.Ytjohfkpgghnpeaa.Num
def bigs (n : Nat) : Nat → List UInt8
  | 0 => []
  | w + 1 => UInt8.ofNat (n / 256 ^ w % 256) :: bigs n w
theorem bigs_length (n w : Nat) : (bigs n w).length = w := by
  induction w with
  | zero => rfl
  | succ w ih => simp [bigs, ih]
theorem bigs_snoc (n w : Nat) : bigs n (w + 1) = bigs (n / 256) w ++ [UInt8.ofNat (n % 256)] := by
  induction w with
  | zero => simp [bigs]
  | succ w ih =>
    rw [bigs, ih, bigs]
    have h : n / 256 / 256 ^ w = n / 256 ^ (w + 1) := by rw [Nat.div_div_eq_div_mul, Nat.pow_succ, Nat.mul_comm]
    rw [h]
    rfl
def widthF : Nat → Nat → Nat
  | 0, _ => 0
  | f + 1, n => if n = 0 then 0 else widthF f (n / 256) + 1
def width (n : Nat) : Nat := widthF 8 n
theorem widthF_le (f n : Nat) : widthF f n ≤ f := by
  induction f generalizing n with
  | zero => simp [widthF]
  | succ f ih =>
    simp only [widthF]
    split
    · omega
    · have := ih (n / 256); omega
theorem widthF_more (f n : Nat) (h : n < 256 ^ f) : widthF (f + 1) n = widthF f n := by
  induction f generalizing n with
  | zero =>
    have : n = 0 := by simpa using h
    subst this
    rfl
  | succ f ih =>
    rw [widthF]
    conv => rhs; rw [widthF]
    split
    · rfl
    · rw [ih (n / 256) (by rw [Nat.pow_succ] at h; exact Nat.div_lt_of_lt_mul (by omega))]
theorem width_le (n : Nat) : width n ≤ 8 := widthF_le 8 n
theorem width_zero : width 0 = 0 := rfl
theorem width_pos {n : Nat} (h : 0 < n) (hn : n < 18446744073709551616) : width n = width (n / 256) + 1 := by
  have e : width n = widthF 7 (n / 256) + 1 := by
    show widthF 8 n = _
    rw [widthF, if_neg (by omega)]
  rw [e]
  have := widthF_more 7 (n / 256) (by omega)
  show _ = widthF 8 (n / 256) + 1
  rw [this]
theorem width_lt (n : Nat) (hn : n < 18446744073709551616) : n < 256 ^ width n := by
  have : ∀ f m, m < 256 ^ f → m < 256 ^ widthF f m := by
    intro f
    induction f with
    | zero => intro m h; simpa [widthF] using h
    | succ f ih =>
      intro m h
      rw [widthF]
      split
      · rename_i h0; subst h0; simp
      · have := ih (m / 256) (by rw [Nat.pow_succ] at h; exact Nat.div_lt_of_lt_mul (by omega))
        rw [Nat.pow_succ]
        omega
  exact this 8 n (by omega)
def high (n : Nat) : List UInt8 := bigs n (width n)
theorem high_pos {n : Nat} (h : 0 < n) (hn : n < 18446744073709551616) : high n = high (n / 256) ++ [UInt8.ofNat (n % 256)] := by
  unfold high
  rw [width_pos h hn, bigs_snoc]
theorem high_length (n : Nat) : (high n).length = width n := bigs_length _ _
def put (n : Nat) : List UInt8 := UInt8.ofNat (width n) :: high n
theorem put_length (n : Nat) : (put n).length = width n + 1 := by simp [put, high_length]
theorem rev_ind {α : Type} {p : List α → Prop} (h0 : p []) (h1 : ∀ l a, p l → p (l ++ [a])) (l : List α) : p l := by
  rw [← List.reverse_reverse l]
  induction l.reverse with
  | nil => exact h0
  | cons a t ih => rw [List.reverse_cons]; exact h1 _ _ ih
def value (l : List UInt8) : Nat := l.foldl (fun n b => n * 256 + b.toNat) 0
theorem value_snoc (l : List UInt8) (b : UInt8) : value (l ++ [b]) = value l * 256 + b.toNat := by simp [value]
theorem value_lt (l : List UInt8) : value l < 256 ^ l.length := by
  refine rev_ind (p := fun l => value l < 256 ^ l.length) (by simp [value]) ?_ l
  · intro l b ih
    rw [value_snoc, List.length_append, List.length_singleton, Nat.pow_succ]
    have := UInt8.toNat_lt b
    omega
theorem value_bigs (n w : Nat) : value (bigs n w) = n % 256 ^ w := by
  induction w generalizing n with
  | zero => simp [bigs, value, Nat.mod_one]
  | succ w ih =>
    rw [bigs_snoc, value_snoc, ih, Nat.pow_succ]
    have e : (UInt8.ofNat (n % 256)).toNat = n % 256 := by simp
    rw [e, Nat.mul_comm (256 ^ w) 256, Nat.mod_mul, Nat.mul_comm]
    omega
theorem value_high (n : Nat) (hn : n < 18446744073709551616) : value (high n) = n := by
  unfold high
  rw [value_bigs, Nat.mod_eq_of_lt (width_lt n hn)]
def word (n : Nat) : List UInt8 := bigs n 4
def text (s : List UInt8) : List UInt8 := put s.length ++ s
def bool (b : Bool) : List UInt8 := if b then [121] else [110]
def list (l : List Int) : List UInt8 := put l.length ++ l.flatMap fun n => put (max n 0).toNat
structure R where
  s : List UInt8
  err : Nat
def R.ok (r : R) : Prop := r.err ≠ 0 → r.s = []
def R.fail (r : R) (e : Nat) : R := if r.err = 0 ∧ e ≠ 0 then ⟨[], e⟩ else r
def R.take (r : R) (n : Int) : R × List UInt8 := if n < 0 ∨ (r.s.length : Int) < n then (r.fail 2, []) else (⟨r.s.drop n.toNat, r.err⟩, r.s.take n.toNat)
def R.num (r : R) (limit : Nat) : R × Nat :=
  match (r.take 1).2 with
  | [] => ((r.take 1).1, 0)
  | b :: _ =>
    if 8 < b.toNat then ((r.take 1).1.fail 3, 0) else
    let q := (r.take 1).1.take b.toNat
    if q.1.err ≠ 0 then (q.1, 0) else
    if width (value q.2) ≠ q.2.length ∨ limit < value q.2 then (q.1.fail 3, 0) else (q.1, value q.2)
def R.int (r : R) (limit : Int) : R × Int := ((r.num (max limit 0).toNat).1, ((r.num (max limit 0).toNat).2 : Int))
def R.word (r : R) : R × Nat := ((r.take 4).1, value (r.take 4).2)
def R.text (r : R) (limit : Int) : R × List UInt8 := (r.int (min limit 65536)).1.take (r.int (min limit 65536)).2
def R.bool (r : R) : R × Bool :=
  if (r.take 1).2 = [121] ∨ (r.take 1).2 = [110] then ((r.take 1).1, decide ((r.take 1).2 = [121])) else ((r.take 1).1.fail 3, false)
def R.ints (r : R) (limit : Int) : Nat → R × List Int
  | 0 => (r, [])
  | k + 1 => (((r.int limit).1.ints limit k).1, (r.int limit).2 :: ((r.int limit).1.ints limit k).2)
def R.list (r : R) (many limit : Int) : R × List Int :=
  let q := (r.int many).1.ints limit (r.int many).2.toNat
  if q.1.err ≠ 0 then (q.1, []) else q
def R.endE (r : R) : Nat := if r.err = 0 ∧ r.s ≠ [] then 3 else r.err
theorem R.fail_ok {r : R} (h : r.ok) (e : Nat) : (r.fail e).ok := by
  unfold R.fail
  split
  · intro _; rfl
  · exact h
theorem R.take_ok {r : R} (h : r.ok) (n : Int) : (r.take n).1.ok := by
  unfold R.take
  split
  · exact R.fail_ok h _
  · intro he
    have := h he
    simp [this]
end Go.Proofs.Ytjohfkpgghnpeaa.Num
end
section
namespace Go.Proofs.Ytjohfkpgghnpeaa.Num
theorem take_app (a b : List UInt8) (e : Nat) : R.take ⟨a ++ b, e⟩ (a.length : Nat) = (⟨b, e⟩, a) := by
  unfold R.take
  dsimp only
  rw [if_neg (by simp; omega)]
  simp
theorem ofNat_small {n : Nat} (h : n < 256) : (UInt8.ofNat n).toNat = n := by simp; omega
theorem num_back (n limit : Nat) (rest : List UInt8) (hn : n < 18446744073709551616) (hl : n ≤ limit) : R.num ⟨put n ++ rest, 0⟩ limit = (⟨rest, 0⟩, n) := by
  have hw := width_le n
  have e1 : R.take ⟨put n ++ rest, 0⟩ 1 = (⟨high n ++ rest, 0⟩, [UInt8.ofNat (width n)]) := take_app [UInt8.ofNat (width n)] (high n ++ rest) 0
  have e2 : R.take ⟨high n ++ rest, 0⟩ (width n : Nat) = (⟨rest, 0⟩, high n) := by rw [← high_length]; exact take_app _ _ _
  unfold R.num
  rw [e1]
  dsimp only
  rw [ofNat_small (by omega), if_neg (by omega), e2]
  dsimp only
  rw [if_neg (by decide), value_high n hn, high_length, if_neg (by omega)]
theorem int_back (n : Nat) (limit : Int) (rest : List UInt8) (hn : n < 18446744073709551616) (hl : (n : Int) ≤ limit) : R.int ⟨put n ++ rest, 0⟩ limit = (⟨rest, 0⟩, (n : Int)) := by
  unfold R.int
  rw [num_back n _ rest hn (by omega)]
theorem text_back (s : List UInt8) (limit : Int) (rest : List UInt8) (h1 : (s.length : Int) ≤ limit) (h2 : s.length ≤ 65536) : R.text ⟨text s ++ rest, 0⟩ limit = (⟨rest, 0⟩, s) := by
  unfold R.text text
  rw [List.append_assoc, int_back s.length _ _ (by omega) (by omega)]
  exact take_app _ _ _
end Go.Proofs.Ytjohfkpgghnpeaa.Num
end
