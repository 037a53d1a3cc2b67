-- packed by pack.py, a program of this claim's repo
import Derived.Test.YtjohfkpgghnpeaaIsC
import Derived.Test.YtjohfkpgghnpeaaIsD
import Derived.Test.YtjohfkpgghnpeaaIsE
import Derived.Test.YtjohfkpgghnpeaaIsB
import Derived.Test.YtjohfkpgghnpeaaIsF
import Derived.Test.YtjohfkpgghnpeaaIsG
import Derived.Test.YtjohfkpgghnpeaaIsH
import Derived.Test.YtjohfkpgghnpeaaIsA
import Derived.Test.YtjohfkpgghnpeaaIsI
import Derived.Test.YtjohfkpgghnpeaaIsJ
import Derived.Test.YtjohfkpgghnpeaaIsK
import Derived.Test.YtjohfkpgghnpeaaIsL
import Derived.Test.YtjohfkpgghnpeaaIsM
import Derived.Test.YtjohfkpgghnpeaaIsN
import Derived.Test.YtjohfkpgghnpeaaIsO
import Derived.Test.YtjohfkpgghnpeaaIsP
import Derived.Test.YtjohfkpgghnpeaaIsQ
import Derived.Test.YtjohfkpgghnpeaaIsR
import Derived.Laws.IdiomCopy
import Derived.Lib.SliceRun
import Derived.Deep.RegionLaw
import Derived.Outline
section
namespace Go.Proofs.Ytjohfkpgghnpeaa.SetC
open Go Go.RowKit
open Go.Proofs.Ytjohfkpgghnpeaa.Gen
open Go.Proofs.Ytjohfkpgghnpeaa.Own
open Go.Proofs.Ytjohfkpgghnpeaa.RowK
open Go.Proofs.Ytjohfkpgghnpeaa.ItemC
open Go.Proofs.Ytjohfkpgghnpeaa.PRef
set_option linter.unusedVariables false
def del (l : List H) (i : Nat) : List H := l.take i ++ l.drop (i + 1)
def DelPost (W : World) (B g cap : Nat) (l : List H) (i : Nat) (e : Ending) (w' : World) : Prop :=
  e = .returned (.slice (some ⟨g, 0, none⟩) (l.length - 1) cap) ∧ w'.ownsRow B 30 3 (.slice (some ⟨g, 0, none⟩) (l.length - 1) cap) (l.length - 1) (flat (del l i)) ∧ W.grownBy w' (some g)
def zH : List Value := [.int .i64 0, .int .u64 0, .string ⟨#[]⟩]
def dropL (l : List H) (b : Int) (ver : Int) : List H × Bool :=
  if hit l b = true ∧ (getL l b).1.f0 ≤ ver then (del l (pos l b), true) else (l, false)
def DropPost (W : World) (B g : Nat) (v : Value) (l : List H) (b : Int) (ver : Int) (e : Ending) (w' : World) : Prop :=
  e = .returned (.bool (dropL l b ver).2) ∧ ∃ v', IsSet w' B g v' (dropL l b ver).1 ∧ Kept W w' g v ∧ (v'.ownBlock = v.ownBlock ∨ ∃ k, v'.ownBlock = some k ∧ W.heap.size ≤ k)
theorem move_own {w w1 : World} {base : Nat} {e : TypeId} {size n : Nat} {v : Value} {xs : List Value} (h : w.ownsRow base e size v n xs) (hm : ∀ k, v.ownBlock = some k → w1.heap[k]? = w.heap[k]?) : w1.ownsRow base e size v n xs := by
  obtain ⟨h1, h2⟩ := h
  refine ⟨h1, ?_⟩
  rcases h2 with h2 | ⟨g, cap, cur, rfl, hg, hh, r⟩
  · exact .inl h2
  · exact .inr ⟨g, cap, cur, rfl, hg, (hm g (by simp [Value.ownBlock])).trans hh, r⟩
end Go.Proofs.Ytjohfkpgghnpeaa.SetC
end
