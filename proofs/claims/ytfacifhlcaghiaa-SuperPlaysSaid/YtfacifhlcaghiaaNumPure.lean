/- Numbers, words, texts and lists as bytes, and how they are taken again: the plain law of chapter 1 (no Go in it). -/
namespace Go.Proofs.Ytfacifhlcaghiaa.Num

/-! ### 1. Bytes of a number -/
/-- So many bytes of a number, the highest first. -/
def bigs (n : Nat) : Nat → List UInt8
  | 0 => []
  | w + 1 => UInt8.ofNat (n / 256 ^ w % 256) :: bigs n w
theorem bigs_length (n w : Nat) : (bigs n w).length = w := by
  induction w with
  | zero => rfl
  | succ w ih => simp [bigs, ih]
theorem bigs_snoc (n w : Nat) : bigs n (w + 1) = bigs (n / 256) w ++ [UInt8.ofNat (n % 256)] := by
  induction w with
  | zero => simp [bigs]
  | succ w ih =>
    rw [bigs, ih, bigs]
    have h : n / 256 / 256 ^ w = n / 256 ^ (w + 1) := by rw [Nat.div_div_eq_div_mul, Nat.pow_succ, Nat.mul_comm]
    rw [h]
    rfl
/-- How many bytes a number needs. -/
def widthF : Nat → Nat → Nat
  | 0, _ => 0
  | f + 1, n => if n = 0 then 0 else widthF f (n / 256) + 1
/-- .. of eight bytes at most (fuel 8). -/
def width (n : Nat) : Nat := widthF 8 n
theorem widthF_zero (f : Nat) : widthF f 0 = 0 := by cases f <;> simp [widthF]
theorem widthF_le (f n : Nat) : widthF f n ≤ f := by
  induction f generalizing n with
  | zero => simp [widthF]
  | succ f ih =>
    simp only [widthF]
    split
    · omega
    · have := ih (n / 256); omega
theorem widthF_more (f n : Nat) (h : n < 256 ^ f) : widthF (f + 1) n = widthF f n := by
  induction f generalizing n with
  | zero =>
    have : n = 0 := by simpa using h
    subst this
    rfl
  | succ f ih =>
    rw [widthF]
    conv => rhs; rw [widthF]
    split
    · rfl
    · rw [ih (n / 256) (by rw [Nat.pow_succ] at h; exact Nat.div_lt_of_lt_mul (by omega))]
theorem width_le (n : Nat) : width n ≤ 8 := widthF_le 8 n
theorem width_zero : width 0 = 0 := rfl
theorem width_pos {n : Nat} (h : 0 < n) (hn : n < 18446744073709551616) : width n = width (n / 256) + 1 := by
  have e : width n = widthF 7 (n / 256) + 1 := by
    show widthF 8 n = _
    rw [widthF, if_neg (by omega)]
  rw [e]
  have := widthF_more 7 (n / 256) (by omega)
  show _ = widthF 8 (n / 256) + 1
  rw [this]
theorem width_lt (n : Nat) (hn : n < 18446744073709551616) : n < 256 ^ width n := by
  have : ∀ f m, m < 256 ^ f → m < 256 ^ widthF f m := by
    intro f
    induction f with
    | zero => intro m h; simpa [widthF] using h
    | succ f ih =>
      intro m h
      rw [widthF]
      split
      · rename_i h0; subst h0; simp
      · have := ih (m / 256) (by rw [Nat.pow_succ] at h; exact Nat.div_lt_of_lt_mul (by omega))
        rw [Nat.pow_succ]
        omega
  exact this 8 n (by omega)

/-- The bytes that a number needs. -/
def high (n : Nat) : List UInt8 := bigs n (width n)
theorem high_zero : high 0 = [] := rfl
theorem high_pos {n : Nat} (h : 0 < n) (hn : n < 18446744073709551616) : high n = high (n / 256) ++ [UInt8.ofNat (n % 256)] := by
  unfold high
  rw [width_pos h hn, bigs_snoc]
theorem high_length (n : Nat) : (high n).length = width n := bigs_length _ _
/-- A number as bytes: how many it needs, and these. -/
def put (n : Nat) : List UInt8 := UInt8.ofNat (width n) :: high n
theorem put_length (n : Nat) : (put n).length = width n + 1 := by simp [put, high_length]

/-- More bytes than it needs begin with noughts. -/
theorem bigs_more (n : Nat) (w : Nat) (h : n < 256 ^ w) : bigs n (w + 1) = 0 :: bigs n w := by
  rw [bigs, Nat.div_eq_of_lt h]
  rfl
theorem bigs_pad (n w k : Nat) (h : n < 256 ^ w) : bigs n (w + k) = List.replicate k 0 ++ bigs n w := by
  induction k with
  | zero => simp
  | succ k ih =>
    rw [← Nat.add_assoc, bigs_more n (w + k) (Nat.lt_of_lt_of_le h (Nat.pow_le_pow_right (by decide) (by omega))), ih, List.replicate_succ]
    rfl

theorem rev_ind {α : Type} {p : List α → Prop} (h0 : p []) (h1 : ∀ l a, p l → p (l ++ [a])) (l : List α) : p l := by
  rw [← List.reverse_reverse l]
  induction l.reverse with
  | nil => exact h0
  | cons a t ih => rw [List.reverse_cons]; exact h1 _ _ ih
/-- The number of bytes. -/
def value (l : List UInt8) : Nat := l.foldl (fun n b => n * 256 + b.toNat) 0
theorem value_snoc (l : List UInt8) (b : UInt8) : value (l ++ [b]) = value l * 256 + b.toNat := by simp [value]
theorem value_lt (l : List UInt8) : value l < 256 ^ l.length := by
  refine rev_ind (p := fun l => value l < 256 ^ l.length) (by simp [value]) ?_ l
  · intro l b ih
    rw [value_snoc, List.length_append, List.length_singleton, Nat.pow_succ]
    have := UInt8.toNat_lt b
    omega
theorem value_bigs (n w : Nat) : value (bigs n w) = n % 256 ^ w := by
  induction w generalizing n with
  | zero => simp [bigs, value, Nat.mod_one]
  | succ w ih =>
    rw [bigs_snoc, value_snoc, ih, Nat.pow_succ]
    have e : (UInt8.ofNat (n % 256)).toNat = n % 256 := by simp
    rw [e, Nat.mul_comm (256 ^ w) 256, Nat.mod_mul, Nat.mul_comm]
    omega
theorem bigs_value (l : List UInt8) : bigs (value l) l.length = l := by
  refine rev_ind (p := fun l => bigs (value l) l.length = l) rfl ?_ l
  · intro l b ih
    have hb := UInt8.toNat_lt b
    rw [List.length_append, List.length_singleton, bigs_snoc, value_snoc, show (value l * 256 + b.toNat) / 256 = value l by omega, ih, show (value l * 256 + b.toNat) % 256 = b.toNat by omega]
    simp
theorem value_high (n : Nat) (hn : n < 18446744073709551616) : value (high n) = n := by
  unfold high
  rw [value_bigs, Nat.mod_eq_of_lt (width_lt n hn)]
/-- Bytes are those that their number needs just where the first is no nought. -/
theorem width_value (l : List UInt8) (h8 : l.length ≤ 8) : width (value l) = l.length ↔ ¬ (∃ t, l = 0 :: t) := by
  have hv : value l < 18446744073709551616 := by
    have := value_lt l
    have h2 : 256 ^ l.length ≤ 256 ^ 8 := Nat.pow_le_pow_right (by decide) h8
    omega
  constructor
  · rintro h ⟨t, rfl⟩
    have e : value (0 :: t) = value t := by simp [value]
    rw [e] at h
    have h1 := value_lt t
    have h2 : width (value t) ≤ t.length := by
      have : ∀ f m k, m < 256 ^ k → widthF f m ≤ k := by
        intro f
        induction f with
        | zero => intro m k _; simp [widthF]
        | succ f ih =>
          intro m k hk
          rw [widthF]
          split
          · omega
          · cases k with
            | zero => simp at hk; omega
            | succ k =>
              have := ih (m / 256) k (by rw [Nat.pow_succ] at hk; exact Nat.div_lt_of_lt_mul (by omega))
              omega
      exact this 8 _ _ h1
    simp at h
    omega
  · intro h
    cases l with
    | nil => rfl
    | cons b t =>
      have hb : b ≠ 0 := fun e => h ⟨t, by rw [e]⟩
      have hb0 : 0 < b.toNat := by
        rcases Nat.eq_zero_or_pos b.toNat with h0 | h0
        · exact absurd (UInt8.toNat_inj.1 (by simpa using h0)) hb
        · exact h0
      have hlow : 256 ^ t.length ≤ value (b :: t) := by
        have gen : ∀ (t : List UInt8) (a : Nat), 0 < a → a * 256 ^ t.length ≤ t.foldl (fun n b => n * 256 + b.toNat) a := by
          intro t
          induction t with
          | nil => intro a _; simp
          | cons c t ih =>
            intro a ha
            have := ih (a * 256 + c.toNat) (by omega)
            simp only [List.foldl_cons, List.length_cons]
            refine Nat.le_trans ?_ this
            rw [Nat.pow_succ, Nat.mul_comm (256 ^ t.length) 256, ← Nat.mul_assoc]
            exact Nat.mul_le_mul_right _ (by omega)
        have := gen t b.toNat hb0
        have e : value (b :: t) = t.foldl (fun n b => n * 256 + b.toNat) b.toNat := by simp [value]
        rw [e]
        refine Nat.le_trans ?_ this
        exact Nat.le_mul_of_pos_left _ hb0
      have h1 := width_lt _ hv
      have h2 : t.length < width (value (b :: t)) := by
        rcases Nat.lt_or_ge t.length (width (value (b :: t))) with h3 | h3
        · exact h3
        · have := Nat.pow_le_pow_right (n := 256) (by decide) h3
          omega
      have h3 : width (value (b :: t)) ≤ t.length + 1 := by
        have hh := value_lt (b :: t)
        have : ∀ f m k, m < 256 ^ k → widthF f m ≤ k := by
          intro f
          induction f with
          | zero => intro m k _; simp [widthF]
          | succ f ih =>
            intro m k hk
            rw [widthF]
            split
            · omega
            · cases k with
              | zero => simp at hk; omega
              | succ k =>
                have := ih (m / 256) k (by rw [Nat.pow_succ] at hk; exact Nat.div_lt_of_lt_mul (by omega))
                omega
        exact this 8 _ _ hh
      simp only [List.length_cons]
      omega

/-! ### 2. What is put -/
def word (n : Nat) : List UInt8 := bigs n 4
def text (s : List UInt8) : List UInt8 := put s.length ++ s
def bool (b : Bool) : List UInt8 := if b then [121] else [110]
def list (l : List Int) : List UInt8 := put l.length ++ l.flatMap fun n => put (max n 0).toNat

/-! ### 3. What is taken -/
structure R where
  s : List UInt8
  err : Nat
/-- Behind an error nothing is left. -/
def R.ok (r : R) : Prop := r.err ≠ 0 → r.s = []
def R.fail (r : R) (e : Nat) : R := if r.err = 0 ∧ e ≠ 0 then ⟨[], e⟩ else r
def R.take (r : R) (n : Int) : R × List UInt8 := if n < 0 ∨ (r.s.length : Int) < n then (r.fail 2, []) else (⟨r.s.drop n.toNat, r.err⟩, r.s.take n.toNat)
def R.num (r : R) (limit : Nat) : R × Nat :=
  match (r.take 1).2 with
  | [] => ((r.take 1).1, 0)
  | b :: _ =>
    if 8 < b.toNat then ((r.take 1).1.fail 3, 0) else
    let q := (r.take 1).1.take b.toNat
    if q.1.err ≠ 0 then (q.1, 0) else
    if width (value q.2) ≠ q.2.length ∨ limit < value q.2 then (q.1.fail 3, 0) else (q.1, value q.2)
def R.int (r : R) (limit : Int) : R × Int := ((r.num (max limit 0).toNat).1, ((r.num (max limit 0).toNat).2 : Int))
def R.word (r : R) : R × Nat := ((r.take 4).1, value (r.take 4).2)
def R.text (r : R) (limit : Int) : R × List UInt8 := (r.int (min limit 65536)).1.take (r.int (min limit 65536)).2
def R.bool (r : R) : R × Bool :=
  if (r.take 1).2 = [121] ∨ (r.take 1).2 = [110] then ((r.take 1).1, decide ((r.take 1).2 = [121])) else ((r.take 1).1.fail 3, false)
/-- So many numbers, whatever goes wrong. -/
def R.ints (r : R) (limit : Int) : Nat → R × List Int
  | 0 => (r, [])
  | k + 1 => (((r.int limit).1.ints limit k).1, (r.int limit).2 :: ((r.int limit).1.ints limit k).2)
def R.list (r : R) (many limit : Int) : R × List Int :=
  let q := (r.int many).1.ints limit (r.int many).2.toNat
  if q.1.err ≠ 0 then (q.1, []) else q
def R.endE (r : R) : Nat := if r.err = 0 ∧ r.s ≠ [] then 3 else r.err

theorem R.fail_ok {r : R} (h : r.ok) (e : Nat) : (r.fail e).ok := by
  unfold R.fail
  split
  · intro _; rfl
  · exact h
theorem R.take_ok {r : R} (h : r.ok) (n : Int) : (r.take n).1.ok := by
  unfold R.take
  split
  · exact R.fail_ok h _
  · intro he
    have := h he
    simp [this]
theorem R.num_ok {r : R} (h : r.ok) (n : Nat) : (r.num n).1.ok := by
  unfold R.num
  have h1 := R.take_ok h 1
  split
  · exact h1
  · rename_i b _ _
    split
    · exact R.fail_ok h1 _
    · have h2 := R.take_ok h1 b.toNat
      dsimp only
      split
      · exact h2
      · split
        · exact R.fail_ok h2 _
        · exact h2
theorem R.int_ok {r : R} (h : r.ok) (n : Int) : (r.int n).1.ok := R.num_ok h _
theorem R.word_ok {r : R} (h : r.ok) : r.word.1.ok := R.take_ok h 4
theorem R.text_ok {r : R} (h : r.ok) (n : Int) : (r.text n).1.ok := R.take_ok (R.int_ok h _) _
theorem R.bool_ok {r : R} (h : r.ok) : r.bool.1.ok := by
  unfold R.bool
  split
  · exact R.take_ok h 1
  · exact R.fail_ok (R.take_ok h 1) _
theorem R.ints_ok {r : R} (h : r.ok) (n : Int) (k : Nat) : (r.ints n k).1.ok := by
  induction k generalizing r with
  | zero => exact h
  | succ k ih => exact ih (R.int_ok h n)
theorem R.list_ok {r : R} (h : r.ok) (m n : Int) : (r.list m n).1.ok := by
  unfold R.list
  dsimp only
  split <;> exact R.ints_ok (R.int_ok h _) _ _
end Go.Proofs.Ytfacifhlcaghiaa.Num
