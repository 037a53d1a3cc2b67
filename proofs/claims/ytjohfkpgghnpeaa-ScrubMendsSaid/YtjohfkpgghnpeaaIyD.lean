-- packed by pack.py, a program of this claim's repo
import Derived.Test.YtjohfkpgghnpeaaIyC
import Derived.Maps.AppendAt
import Derived.Deep.AppendLies
import Derived.RegionTactic
import Derived.OwnWalk
section
namespace Go.Proofs.Ytjohfkpgghnpeaa.Own
open Go Go.RowKit
open Go.Proofs.Ytjohfkpgghnpeaa.Gen
set_option linter.unusedVariables false
theorem own_slice {w : World} {B : Nat} {e : TypeId} {size n : Nat} {v : Value} {xs : List Value} (h : w.ownsRow B e size v n xs) : ∃ A cap, v = .slice A n cap ∧ n ≤ cap := by
  rcases h.2 with ⟨rfl, rfl⟩ | ⟨g, cap, cur, rfl, _, _, hc, _⟩
  · exact ⟨none, 0, rfl, Nat.le_refl _⟩
  · exact ⟨_, cap, rfl, hc⟩
theorem own_cell {w : World} {B : Nat} {e : TypeId} {size n cap : Nat} {A : Option Addr} {xs : List Value} (h : w.ownsRow B e size (.slice A n cap) n xs) (i : Nat) (u : Value) (hi : xs[i]? = some u) : ∃ ad, A = some ad ∧ w.cell? (ad.add i) = some u := by
  cases A with
  | none =>
    rcases h.2 with ⟨h1, h2⟩ | ⟨g, _, _, h1, _⟩
    · injection h1 with _ h3 _
      have := h.1
      rw [h3] at this
      simp only [Nat.zero_mul, List.length_eq_zero_iff] at this
      subst this
      simp at hi
    · cases h1
  | some ad =>
    refine ⟨ad, rfl, ?_⟩
    rcases h.2 with ⟨h1, _⟩ | ⟨g, _, _, h1, _⟩
    · cases h1
    · injection h1 with h1 _ _
      injection h1 with h1
      have := h.cells (g := g) (by simp [Value.ownBlock, h1]) i u hi
      rw [h1]
      exact this
theorem own_below {w w' : World} {B : Nat} {e : TypeId} {size n : Nat} {v : Value} {xs : List Value} (h : w.ownsRow B e size v n xs) (hb : Below w.heap.size w w') : w'.ownsRow B e size v n xs :=
  h.kept (row := none) ⟨hb.os, hb.tape, hb.output, hb.size, fun i hi _ => hb.block i hi⟩ (by cases v.ownBlock <;> simp)
theorem info_one {P : Program} {e : TypeId} {z : Value} {s b : Nat} (h : (P.info? e).map (fun i => (i.zero, i.size, i.bytes)) = some (some z, s, b)) : ∃ i, P.info? e = some i ∧ i.zero = some z ∧ i.size = s ∧ i.bytes = b := by
  cases hi : P.info? e with
  | none => rw [hi] at h; cases h
  | some i =>
    rw [hi] at h
    simp only [Option.map_some, Option.some.injEq, Prod.mk.injEq] at h
    exact ⟨i, rfl, h.1, h.2.1, h.2.2⟩
end Go.Proofs.Ytjohfkpgghnpeaa.Own
end
