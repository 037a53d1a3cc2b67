/- Arguments of a law opened by the shape of their type: numbers, truths, texts, slices, structs and arrays of these, as Lean data, with what memory holds of them. Over any program; no condition. -/
import Derived.Deep.Slices
import Derived.Deep.Fields
import Derived.ChangeSame
import Derived.OpenShut
import Derived.Below
namespace Go.Proofs.Ytfacifhlcaghiaa.Open
open Go Go.ChangeShapes Go.WideShapes Go.Deep Go.RowKit

/-- A slice as data: where it lies, its capacity, its elements. -/
structure Sl (α : Type) where
  A : Option Addr
  cap : Nat
  l : List α

/-- Shapes: a struct and an array are pairs, one behind the other. -/
inductive Sh where
  | int (k : IntKind)
  | bool
  | str
  | sl (s : Sh)
  | pair (a b : Sh)

@[reducible] def Sh.T : Sh → Type
  | .int _ => Int
  | .bool => Bool
  | .str => ByteArray
  | .sl s => Sl s.T
  | .pair a b => a.T × b.T
def Sh.size : Sh → Nat
  | .pair a b => a.size + b.size
  | _ => 1
def Sh.cells : (s : Sh) → s.T → List Value
  | .int k, n => [.int k n]
  | .bool, b => [.bool b]
  | .str, s => [.string s]
  | .sl _, x => [.slice x.A x.l.length x.cap]
  | .pair a b, x => a.cells x.1 ++ b.cells x.2
theorem Sh.cells_length (s : Sh) (x : s.T) : (s.cells x).length = s.size := by
  induction s with
  | pair a b iha ihb => simp [Sh.cells, Sh.size, iha, ihb]
  | _ => rfl
/-- What is known of such data in a world. -/
def Sh.ok (w : World) : (s : Sh) → s.T → Prop
  | .int k, n => (Lit.int k n).wf = true
  | .bool, _ => True
  | .str, s => s.size ≤ maxLen
  | .sl s, x => x.l.length ≤ x.cap ∧ x.cap ≤ maxLen ∧ (x.A = none → x.l = [] ∧ x.cap = 0) ∧
      (∀ a, x.A = some a → ∀ (i : Nat) (y : s.T), x.l[i]? = some y → ∀ (j : Nat) (u : Value), (s.cells y)[j]? = some u → w.cell? (a.add (i * s.size + j)) = some u) ∧ ∀ y ∈ x.l, s.ok w y
  | .pair a b, x => a.ok w x.1 ∧ b.ok w x.2

def fitF (g : TypeId → Sh → Bool) (P : Program) : List Field → Nat → Sh → Bool
  | [], _, _ => false
  | [f], off, s => f.offset == off && P.cellsOf f.type == s.size && g f.type s
  | f :: fs, off, .pair a b => f.offset == off && P.cellsOf f.type == a.size && g f.type a && fitF g P fs (off + a.size) b
  | _ :: _, _, _ => false
def fitA (g : TypeId → Sh → Bool) (P : Program) (e : TypeId) : Nat → Sh → Bool
  | 0, _ => false
  | 1, s => P.cellsOf e == s.size && g e s
  | n + 1, .pair a b => P.cellsOf e == a.size && g e a && fitA g P e n b
  | _ + 1, _ => false
/-- Has a type that shape? -/
def fit (P : Program) : Nat → TypeId → Sh → Bool
  | 0, _, _ => false
  | f + 1, t, s =>
    match P.underlying t, s with
    | some (.int k), .int k' => k == k'
    | some .bool, .bool => true
    | some .string, .str => true
    | some (.slice e), .sl s' => fit P f e s' && P.cellsOf e == s'.size
    | some (.struct fs), s => fitF (fit P f) P fs.toList 0 s && P.cellsOf t == s.size
    | some (.array n e), s => fitA (fit P f) P e n s && P.cellsOf t == s.size
    | _, _ => false

section
variable {H : Type} {enc : TypeId × Value → H} {P : Program} {w : World} {base : Nat} {spare : Nat → Bool} {held : Bool}

theorem fitF_open {g : TypeId → Sh → Bool} {n : Nat} (hg : ∀ t s, g t s = true → ∀ (cs : List Value) (x : DataW H × List MemPlace), DataW.trod enc P w base spare held n t cs = some x → ∃ y : s.T, cs = s.cells y ∧ s.ok w y)
    (cs : List Value) : ∀ (fs : List Field) (off : Nat) (s : Sh), fitF g P fs off s = true → cs.length = off + s.size →
    (∀ f ∈ fs, ∃ x, DataW.trod enc P w base spare held n f.type ((cs.drop f.offset).take (P.cellsOf f.type)) = some x) → ∃ y : s.T, cs.drop off = s.cells y ∧ s.ok w y := by
  intro fs
  induction fs with
  | nil => intro off s h; exact absurd h (by simp [fitF])
  | cons f fs ih =>
    intro off s h hlen hf
    cases fs with
    | nil =>
      simp only [fitF, Bool.and_eq_true, beq_iff_eq] at h
      obtain ⟨⟨h1, h2⟩, h3⟩ := h
      obtain ⟨x, hx⟩ := hf f (by simp)
      rw [h1, h2] at hx
      obtain ⟨y, hy, hok⟩ := hg _ _ h3 _ _ hx
      refine ⟨y, ?_, hok⟩
      rw [← hy, List.take_of_length_le (by rw [List.length_drop]; omega)]
    | cons f2 fs =>
      cases s with
      | pair a b =>
        simp only [fitF, Bool.and_eq_true, beq_iff_eq] at h
        obtain ⟨⟨⟨h1, h2⟩, h3⟩, h4⟩ := h
        obtain ⟨x, hx⟩ := hf f (by simp)
        rw [h1, h2] at hx
        obtain ⟨y, hy, hok⟩ := hg _ _ h3 _ _ hx
        obtain ⟨z, hz, hokz⟩ := ih (off + a.size) b h4 (by simp only [Sh.size] at hlen; omega) (fun f' hf' => hf f' (by simp at hf' ⊢; exact Or.inr hf'))
        refine ⟨(y, z), ?_, hok, hokz⟩
        show _ = a.cells y ++ b.cells z
        rw [← hy, ← hz, ← List.drop_drop, List.take_append_drop]
      | _ => simp [fitF] at h

theorem fitA_open {g : TypeId → Sh → Bool} {n : Nat} {e : TypeId} (hg : ∀ t s, g t s = true → ∀ (cs : List Value) (x : DataW H × List MemPlace), DataW.trod enc P w base spare held n t cs = some x → ∃ y : s.T, cs = s.cells y ∧ s.ok w y) :
    ∀ (m : Nat) (cs : List Value) (s : Sh), fitA g P e m s = true → cs.length = s.size →
    (∀ i, i < m → ∃ x, DataW.trod enc P w base spare held n e ((cs.drop (i * P.cellsOf e)).take (P.cellsOf e)) = some x) → ∃ y : s.T, cs = s.cells y ∧ s.ok w y := by
  intro m
  induction m with
  | zero => intro cs s h; simp [fitA] at h
  | succ m ih =>
    intro cs s h hlen hf
    cases m with
    | zero =>
      have h : (P.cellsOf e == s.size && g e s) = true := h
      simp only [Bool.and_eq_true, beq_iff_eq] at h
      obtain ⟨h2, h3⟩ := h
      obtain ⟨x, hx⟩ := hf 0 (by omega)
      rw [h2] at hx
      obtain ⟨y, hy, hok⟩ := hg _ _ h3 _ _ hx
      refine ⟨y, ?_, hok⟩
      rw [← hy, Nat.zero_mul, List.drop_zero, List.take_of_length_le (by omega)]
    | succ m =>
      cases s with
      | pair a b =>
        simp only [fitA, Bool.and_eq_true, beq_iff_eq] at h
        obtain ⟨⟨h2, h3⟩, h4⟩ := h
        obtain ⟨x, hx⟩ := hf 0 (by omega)
        rw [h2] at hx
        obtain ⟨y, hy, hok⟩ := hg _ _ h3 _ _ hx
        obtain ⟨z, hz, hokz⟩ := ih (cs.drop a.size) b h4 (by simp only [Sh.size] at hlen; rw [List.length_drop]; omega) (fun i hi => by
          obtain ⟨x, hx⟩ := hf (i + 1) (by omega)
          refine ⟨x, ?_⟩
          rw [← hx, List.drop_drop, h2, Nat.add_mul, Nat.one_mul, Nat.add_comm])
        refine ⟨(y, z), ?_, hok, hokz⟩
        show _ = a.cells y ++ b.cells z
        rw [← hy, ← hz, Nat.zero_mul, List.drop_zero, List.take_append_drop]
      | _ => simp [fitA] at h

theorem choose_list {α : Type} : ∀ (n : Nat) {p : Nat → α → Prop}, (∀ i, i < n → ∃ x, p i x) → ∃ l : List α, l.length = n ∧ ∀ i x, l[i]? = some x → p i x := by
  intro n
  induction n with
  | zero => intro p _; exact ⟨[], rfl, fun i x h => by simp at h⟩
  | succ n ih =>
    intro p h
    obtain ⟨l, hl, hp⟩ := ih (p := p) (fun i hi => h i (by omega))
    obtain ⟨x, hx⟩ := h n (by omega)
    refine ⟨l ++ [x], by simp [hl], fun i y hy => ?_⟩
    by_cases hi : i < n
    · rw [List.getElem?_append_left (by omega)] at hy
      exact hp i y hy
    · rw [List.getElem?_append_right (by omega)] at hy
      have h0 : i - l.length = 0 := by
        rcases Nat.eq_zero_or_pos (i - l.length) with e | e
        · exact e
        · rw [List.getElem?_eq_none (by simp; omega)] at hy
          cases hy
      rw [h0] at hy
      have : i = n := by omega
      subst this
      simp at hy
      exact hy ▸ hx

theorem fit_open : ∀ (f : Nat) (t : TypeId) (s : Sh), fit P f t s = true → ∀ (n : Nat) (cs : List Value) (x : DataW H × List MemPlace), DataW.trod enc P w base spare held n t cs = some x → ∃ y : s.T, cs = s.cells y ∧ s.ok w y := by
  intro f
  induction f with
  | zero => intro t s h; simp [fit] at h
  | succ f ih =>
    intro t s h n cs x hx
    unfold fit at h
    split at h
    · rename_i k k' ht
      obtain rfl : k = k' := by simpa using h
      obtain ⟨m, rfl, _, hw⟩ := DataW.trod_int ht hx
      exact ⟨m, rfl, hw⟩
    · rename_i ht
      obtain ⟨b, rfl, _⟩ := DataW.trod_bool ht hx
      exact ⟨b, rfl, trivial⟩
    · rename_i ht
      obtain ⟨b, rfl, _, hs⟩ := DataW.trod_string ht hx
      exact ⟨b, rfl, hs⟩
    · rename_i e s' ht
      simp only [Bool.and_eq_true, beq_iff_eq] at h
      rcases open_slice ht hx with ⟨rfl, _⟩ | ⟨a, len, cap, m, n', D, Pl, rfl, hb, hl, hm, hmm, _, hi⟩
      · exact ⟨⟨none, 0, []⟩, rfl, Nat.le_refl _, Nat.zero_le _, fun _ => ⟨rfl, rfl⟩, fun a h => (by cases h), fun y hy => (by cases hy)⟩
      · have hle : len ≤ m := by rw [hmm]; split <;> omega
        obtain ⟨l, hll, hp⟩ := choose_list (α := s'.T) len (p := fun i y => w.cells? base (a.add (i * P.cellsOf e)) (P.cellsOf e) = some (s'.cells y) ∧ s'.ok w y) (fun i hi' => by
          obtain ⟨cs', h1, h2⟩ := hi i (by omega)
          obtain ⟨y, rfl, hok⟩ := ih e s' h.1 _ _ _ h2
          exact ⟨y, h1, hok⟩)
        refine ⟨⟨some a, cap, l⟩, by simp [Sh.cells, hll], by simp [hll, hl], hm, fun h => (by cases h), ?_, ?_⟩
        · rintro a' ha i y hy j u hu
          injection ha with ha
          subst ha
          obtain ⟨_, hcl, hat⟩ := World.cells?_some (hp i y hy).1
          have hj : j < P.cellsOf e := by
            rw [← hcl]
            rcases Nat.lt_or_ge j (s'.cells y).length with hj | hj
            · exact hj
            · rw [List.getElem?_eq_none hj] at hu
              cases hu
          have := hat j hj
          rw [Go.Deep.add_add, h.2] at this
          rw [this, hu]
        · intro y hy
          obtain ⟨i, hi', rfl⟩ := List.getElem_of_mem hy
          exact (hp i _ (List.getElem?_eq_getElem hi')).2
    · rename_i s _ _ fs ht
      simp only [Bool.and_eq_true, beq_iff_eq] at h
      obtain ⟨xs, n', rfl, _, hlen, hxl, hf⟩ := DataW.trod_struct ht hx
      obtain ⟨y, hy, hok⟩ := fitF_open (n := n') (fun t s hg cs x hx => ih t s hg _ cs x hx) cs fs.toList 0 s h.1 (by omega) (fun fd hfd => by
        obtain ⟨j, hj, rfl⟩ := List.getElem_of_mem hfd
        have hj' : fs[j]? = some fs.toList[j] := by
          rw [Array.getElem?_eq_getElem (by simpa using hj)]
          rfl
        have := hf j _ hj'
        rw [this]
        exact ⟨_, List.getElem?_eq_getElem (by rw [hxl]; simpa using hj)⟩)
      exact ⟨y, by simpa using hy, hok⟩
    · rename_i s _ _ m e ht
      simp only [Bool.and_eq_true, beq_iff_eq] at h
      obtain ⟨xs, n', rfl, _, hlen, hxl, hf⟩ := DataW.trod_array ht hx
      exact fitA_open (n := n') (fun t s hg cs x hx => ih t s hg _ cs x hx) m cs s h.1 (by omega) (fun i hi => ⟨_, (hf i hi).trans (List.getElem?_eq_getElem (by omega))⟩)
    · cases h
/-- AN ARGUMENT OPENED. -/
theorem open_any {t : TypeId} (s : Sh) {v : Value} {d : DataW H} {ps : List MemPlace} (hf : fit P 64 t s = true) (h : DataW.Trod enc P w base spare held t v d ps) : ∃ y : s.T, v.cells.toList = s.cells y ∧ s.ok w y := by
  obtain ⟨fuel, hx⟩ := h
  exact fit_open 64 t s hf _ _ _ hx
theorem open_agg {r : Reach} {b0 : Nat} {t : TypeId} (s : Sh) {v : Value} {d : DataW H} {ps : List MemPlace} (hf : fit P 64 t s = true) (hs : (match P.underlying t with | some (.struct _) | some (.array _ _) => true | _ => false) = true) (hv : Value.okWide P w r b0 t v)
    (h : DataW.Trod enc P w base spare held t v d ps) : ∃ y : s.T, v = .agg (s.cells y).toArray ∧ s.ok w y := by
  obtain ⟨y, hy, hok⟩ := open_any s hf h
  have : ∃ cs, v = .agg cs := by
    unfold Value.okWide at hv
    split at hv
    · obtain ⟨cs, h, _⟩ := hv; exact ⟨cs, h⟩
    · obtain ⟨cs, h, _⟩ := hv; exact ⟨cs, h⟩
    · rename_i h1 h2
      exfalso
      split at hs
      · rename_i e; exact h1 _ e
      · rename_i e; exact h2 _ _ e
      · cases hs
  obtain ⟨cs, rfl⟩ := this
  refine ⟨y, ?_, hok⟩
  rw [← hy]
  rfl
theorem open_sl {r : Reach} {b0 : Nat} {t e : TypeId} (s : Sh) {v : Value} {d : DataW H} {ps : List MemPlace} (ht : P.underlying t = some (.slice e)) (hf : fit P 64 t (.sl s) = true) (hv : Value.okWide P w r b0 t v)
    (h : DataW.Trod enc P w base spare held t v d ps) : ∃ y : Sl s.T, v = .slice y.A y.l.length y.cap ∧ (Sh.sl s).ok w y := by
  obtain ⟨a0, len, cap, rfl⟩ := okWide_slice ht hv
  obtain ⟨y, hy, hok⟩ := open_any (.sl s) hf h
  refine ⟨y, ?_, hok⟩
  simpa [Value.cells, Sh.cells] using hy
end
theorem ints_cells {W : World} {y : Sl Int} (h : (Sh.sl (.int .i64)).ok W y) : y.l.length ≤ 9223372036854775807 ∧ ∀ i, i < y.l.length → ∃ ad, y.A = some ad ∧ W.cell? (ad.add i) = some (.int .i64 (y.l[i]?.getD 0)) := by
  obtain ⟨h1, h2, h3, h4, _⟩ := h
  refine ⟨by unfold maxLen at h2; omega, fun i hi => ?_⟩
  cases hA : y.A with
  | none => rw [(h3 hA).1] at hi; simp at hi
  | some a =>
    refine ⟨a, rfl, ?_⟩
    have := h4 a hA i y.l[i] (List.getElem?_eq_getElem hi) 0 (.int .i64 y.l[i]) rfl
    simpa [Sh.size, hi] using this
theorem ints_range {W : World} {y : Sl Int} (h : (Sh.sl (.int .i64)).ok W y) : ∀ n ∈ y.l, -9223372036854775808 ≤ n ∧ n ≤ 9223372036854775807 := by
  obtain ⟨_, _, _, _, h5⟩ := h
  intro n hn
  exact bounds_i64 (h5 n hn)
#print axioms open_any
end Go.Proofs.Ytfacifhlcaghiaa.Open
