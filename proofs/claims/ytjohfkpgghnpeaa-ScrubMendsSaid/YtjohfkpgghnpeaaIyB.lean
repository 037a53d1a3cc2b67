-- packed by pack.py, a program of this claim's repo
section
namespace Go.Proofs.Ytjohfkpgghnpeaa.Num
def bigs (n : Nat) : Nat → List UInt8
  | 0 => []
  | w + 1 => UInt8.ofNat (n / 256 ^ w % 256) :: bigs n w
def widthF : Nat → Nat → Nat
  | 0, _ => 0
  | f + 1, n => if n = 0 then 0 else widthF f (n / 256) + 1
def width (n : Nat) : Nat := widthF 8 n
def high (n : Nat) : List UInt8 := bigs n (width n)
def put (n : Nat) : List UInt8 := UInt8.ofNat (width n) :: high n
def value (l : List UInt8) : Nat := l.foldl (fun n b => n * 256 + b.toNat) 0
def word (n : Nat) : List UInt8 := bigs n 4
def text (s : List UInt8) : List UInt8 := put s.length ++ s
def bool (b : Bool) : List UInt8 := if b then [121] else [110]
def list (l : List Int) : List UInt8 := put l.length ++ l.flatMap fun n => put (max n 0).toNat
structure R where
  s : List UInt8
  err : Nat
def R.ok (r : R) : Prop := r.err ≠ 0 → r.s = []
def R.fail (r : R) (e : Nat) : R := if r.err = 0 ∧ e ≠ 0 then ⟨[], e⟩ else r
def R.take (r : R) (n : Int) : R × List UInt8 := if n < 0 ∨ (r.s.length : Int) < n then (r.fail 2, []) else (⟨r.s.drop n.toNat, r.err⟩, r.s.take n.toNat)
def R.num (r : R) (limit : Nat) : R × Nat :=
  match (r.take 1).2 with
  | [] => ((r.take 1).1, 0)
  | b :: _ =>
    if 8 < b.toNat then ((r.take 1).1.fail 3, 0) else
    let q := (r.take 1).1.take b.toNat
    if q.1.err ≠ 0 then (q.1, 0) else
    if width (value q.2) ≠ q.2.length ∨ limit < value q.2 then (q.1.fail 3, 0) else (q.1, value q.2)
def R.int (r : R) (limit : Int) : R × Int := ((r.num (max limit 0).toNat).1, ((r.num (max limit 0).toNat).2 : Int))
def R.word (r : R) : R × Nat := ((r.take 4).1, value (r.take 4).2)
def R.text (r : R) (limit : Int) : R × List UInt8 := (r.int (min limit 65536)).1.take (r.int (min limit 65536)).2
def R.bool (r : R) : R × Bool :=
  if (r.take 1).2 = [121] ∨ (r.take 1).2 = [110] then ((r.take 1).1, decide ((r.take 1).2 = [121])) else ((r.take 1).1.fail 3, false)
def R.ints (r : R) (limit : Int) : Nat → R × List Int
  | 0 => (r, [])
  | k + 1 => (((r.int limit).1.ints limit k).1, (r.int limit).2 :: ((r.int limit).1.ints limit k).2)
def R.list (r : R) (many limit : Int) : R × List Int :=
  let q := (r.int many).1.ints limit (r.int many).2.toNat
  if q.1.err ≠ 0 then (q.1, []) else q
def R.endE (r : R) : Nat := if r.err = 0 ∧ r.s ≠ [] then 3 else r.err
theorem R.fail_ok {r : R} (h : r.ok) (e : Nat) : (r.fail e).ok := by
  unfold R.fail
  split
  · intro _; rfl
  · exact h
theorem R.take_ok {r : R} (h : r.ok) (n : Int) : (r.take n).1.ok := by
  unfold R.take
  split
  · exact R.fail_ok h _
  · intro he
    have := h he
    simp [this]
end Go.Proofs.Ytjohfkpgghnpeaa.Num
end
section
namespace Go.Proofs.Ytjohfkpgghnpeaa.Num
end Go.Proofs.Ytjohfkpgghnpeaa.Num
end
