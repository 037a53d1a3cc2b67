-- packed by pack.py, a program of this claim's repo
import Derived.Test.YtjohfkpgghnpeaaIyC
import Derived.Test.YtjohfkpgghnpeaaIyD
import Derived.Test.YtjohfkpgghnpeaaIyF
import Derived.Test.YtjohfkpgghnpeaaIyB
import Derived.Test.YtjohfkpgghnpeaaIyG
import Derived.Test.YtjohfkpgghnpeaaIyH
import Derived.Test.YtjohfkpgghnpeaaIyI
import Derived.Test.YtjohfkpgghnpeaaIyA
import Derived.Test.YtjohfkpgghnpeaaIyJ
import Derived.Test.YtjohfkpgghnpeaaIyK
import Derived.Test.YtjohfkpgghnpeaaIyL
import Derived.Test.YtjohfkpgghnpeaaIyM
import Derived.Test.YtjohfkpgghnpeaaIyN
import Derived.Test.YtjohfkpgghnpeaaIyO
import Derived.Test.YtjohfkpgghnpeaaIyP
import Derived.Test.YtjohfkpgghnpeaaIyQ
import Derived.Test.YtjohfkpgghnpeaaIyR
import Derived.Test.YtjohfkpgghnpeaaIyE
import Derived.Laws.IdiomCopy
import Derived.Lib.SliceRun
import Derived.Deep.RegionLaw
import Derived.Outline
section
namespace Go.Proofs.Ytjohfkpgghnpeaa.SetC
open Go Go.RowKit
open Go.Proofs.Ytjohfkpgghnpeaa.Gen
open Go.Proofs.Ytjohfkpgghnpeaa.Own
open Go.Proofs.Ytjohfkpgghnpeaa.RowK
open Go.Proofs.Ytjohfkpgghnpeaa.ItemC
open Go.Proofs.Ytjohfkpgghnpeaa.PRef
set_option linter.unusedVariables false
def del (l : List H) (i : Nat) : List H := l.take i ++ l.drop (i + 1)
def DelPost (W : World) (B g cap : Nat) (l : List H) (i : Nat) (e : Ending) (w' : World) : Prop :=
  e = .returned (.slice (some ⟨g, 0, none⟩) (l.length - 1) cap) ∧ w'.ownsRow B 30 3 (.slice (some ⟨g, 0, none⟩) (l.length - 1) cap) (l.length - 1) (flat (del l i)) ∧ W.grownBy w' (some g)
def zH : List Value := [.int .i64 0, .int .u64 0, .string ⟨#[]⟩]
def dropL (l : List H) (b : Int) (ver : Int) : List H × Bool :=
  if hit l b = true ∧ (getL l b).1.f0 ≤ ver then (del l (pos l b), true) else (l, false)
def DropPost (W : World) (B g : Nat) (v : Value) (l : List H) (b : Int) (ver : Int) (e : Ending) (w' : World) : Prop :=
  e = .returned (.bool (dropL l b ver).2) ∧ ∃ v', IsSet w' B g v' (dropL l b ver).1 ∧ Kept W w' g v ∧ (v'.ownBlock = v.ownBlock ∨ ∃ k, v'.ownBlock = some k ∧ W.heap.size ≤ k)
end Go.Proofs.Ytjohfkpgghnpeaa.SetC
end
