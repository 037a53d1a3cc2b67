/- Contracts of a source of bytes: lists taken. -/
import Derived.Test.YtfacifhlcaghiaaNumNil
import Derived.Test.YtfacifhlcaghiaaOwn
namespace Go.Proofs.Ytfacifhlcaghiaa.NumC
open Go Go.RowKit
open Go.Proofs.Ytfacifhlcaghiaa.Gen
open Go.Proofs.Ytfacifhlcaghiaa.Num
open Go.Proofs.Ytfacifhlcaghiaa.Own
set_option linter.unusedVariables false
theorem list_len (l : List Int) : (list l).length ≤ 9 * l.length + 9 := by
  have := listUpto_len l l.length
  rwa [listUpto_all] at this
theorem text_len (l : List UInt8) : (text l).length ≤ l.length + 9 := by
  have := put_len l.length
  unfold text
  rw [List.length_append]
  omega
theorem word_len (n : Nat) : (word n).length = 4 := bigs_length n 4
theorem cut (l : List UInt8) (n : Nat) : (⟨l.toArray⟩ : ByteArray).extract 0 (min (l.length : Int) (n : Int)).toNat = ⟨(l.take n).toArray⟩ := by
  rw [ext]
  congr 2
  rw [List.drop_zero, Nat.sub_zero]
  rw [List.take_eq_take_iff]
  omega
theorem take_err {r : R} (ho : r.ok) (he : r.err ≠ 0) (n : Nat) (hn : 0 < n) : (r.take n).1 = r ∧ (r.take n).2 = [] := by
  have hs := ho he
  unfold R.take
  rw [if_pos (Or.inr (by rw [hs]; simp; omega))]
  exact ⟨fail_after he 2, rfl⟩
theorem int_err {r : R} (ho : r.ok) (he : r.err ≠ 0) (n : Int) : (r.int n).1 = r := by
  obtain ⟨h1, h2⟩ := take_err ho he 1 (by omega)
  have e1 : r.take 1 = (r, []) := Prod.ext h1 h2
  unfold R.int R.num
  rw [e1]
theorem ints_snoc (limit : Int) (k : Nat) : ∀ r : R, r.ints limit (k + 1) = (((r.ints limit k).1.int limit).1, (r.ints limit k).2 ++ [((r.ints limit k).1.int limit).2]) := by
  induction k with
  | zero => intro r; rfl
  | succ k ih =>
    intro r
    rw [R.ints, ih (r.int limit).1]
    conv => rhs; rw [R.ints]
    simp
theorem ints_length (limit : Int) (k : Nat) : ∀ r : R, (r.ints limit k).2.length = k := by
  induction k with
  | zero => intro r; rfl
  | succ k ih => intro r; rw [R.ints]; simp [ih]
theorem ints_stays (limit : Int) (m : Nat) : ∀ r : R, r.ok → r.err ≠ 0 → (r.ints limit m).1 = r := by
  induction m with
  | zero => intro r _ _; rfl
  | succ m ih =>
    intro r ho he
    rw [R.ints]
    dsimp only
    rw [int_err ho he]
    exact ih r ho he
theorem ints_add (limit : Int) (k : Nat) : ∀ (r : R) (m : Nat), (r.ints limit (k + m)).1 = ((r.ints limit k).1.ints limit m).1 := by
  induction k with
  | zero => intro r m; rw [Nat.zero_add]; rfl
  | succ k ih =>
    intro r m
    rw [Nat.add_right_comm, R.ints]
    dsimp only
    rw [ih, R.ints]
theorem grownA {a w w' : World} {row : Option Nat} (h : a.grownBy w row) (hb : Below a.heap.size w w') : a.grownBy w' row :=
  ⟨hb.os.trans h.os, hb.tape.trans h.tape, hb.output.trans h.output, Nat.le_trans h.size hb.size, fun i hi hr => (hb.block i hi).trans (h.block i hi hr)⟩
theorem own_far {w : World} {B b : Nat} {e : TypeId} {size n : Nat} {v : Value} {xs : List Value} (h : w.ownsRow B e size v n xs) (hb : b < B) : some b ≠ v.ownBlock := fun e => by
  have := (h.lt b e.symm).1
  omega
theorem own_grown {w w' : World} {B b : Nat} {e : TypeId} {size n : Nat} {v : Value} {xs : List Value} (h : w.ownsRow B e size v n xs) (hg : w.grownBy w' (some b)) (hb : b < B) : w'.ownsRow B e size v n xs :=
  h.kept hg (Or.inr (fun e => own_far h hb e.symm))
end Go.Proofs.Ytfacifhlcaghiaa.NumC
