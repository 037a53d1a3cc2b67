-- packed by pack.py, a program of this claim's repo
import Derived.Test.YtjohfkpgghnpeaaIyU
import Derived.Test.YtjohfkpgghnpeaaIyA
import Derived.Test.YtjohfkpgghnpeaaIyJ
import Derived.Test.YtjohfkpgghnpeaaIyK
import Derived.Test.YtjohfkpgghnpeaaIyV
import Derived.Test.YtjohfkpgghnpeaaIyB
import Derived.Test.YtjohfkpgghnpeaaIyC
import Derived.Test.YtjohfkpgghnpeaaIyG
import Derived.Test.YtjohfkpgghnpeaaIyH
import Derived.Test.YtjohfkpgghnpeaaIyI
import Derived.Test.YtjohfkpgghnpeaaIyL
import Derived.Test.YtjohfkpgghnpeaaIyD
import Derived.Test.YtjohfkpgghnpeaaIyM
import Derived.Test.YtjohfkpgghnpeaaIyN
import Derived.Test.YtjohfkpgghnpeaaIyO
import Derived.Test.YtjohfkpgghnpeaaIyP
import Derived.Test.YtjohfkpgghnpeaaIyQ
section
namespace Go.Proofs.Ytjohfkpgghnpeaa.ItmPr
open Go Go.RowKit
open Go.Proofs.Ytjohfkpgghnpeaa.Open
open Go.Proofs.Ytjohfkpgghnpeaa.PRef
open Go.Proofs.YtjohfkpgghnpeaaW.PrintWords
set_option linter.unusedVariables false
@[reducible] def shH : Sh := .pair (.int .i64) (.pair (.int .u64) .str)
def ofSh (y : shH.T) : S30 := ⟨y.1, ⟨y.2.1, y.2.2⟩⟩
theorem C_held {W : World} (x : Sl shH.T) (h : (Sh.sl shH).ok W x) : Kd.C k30 W x.A (x.l.map ofSh).length (x.l.map ofSh) :=
  OpenKd.C_of_sh (s := shH) k30 ofSh rfl (fun y _ => k30_mk W (ofSh y)) x h
theorem held_size {W : World} (x : Sl shH.T) (h : (Sh.sl shH).ok W x) : ∀ y ∈ x.l.map ofSh, y.f1.f1.size ≤ 9223372036854775807 := by
  intro y hy
  obtain ⟨z, hz, rfl⟩ := List.mem_map.1 hy
  have := (h.2.2.2.2 z hz).2.2
  unfold Sh.ok maxLen at this
  exact this
theorem held_ver {W : World} (x : Sl shH.T) (h : (Sh.sl shH).ok W x) : ∀ y ∈ x.l.map ofSh, 0 ≤ y.f1.f0 ∧ y.f1.f0 < 18446744073709551616 := by
  intro y hy
  obtain ⟨z, hz, rfl⟩ := List.mem_map.1 hy
  have h2 : (Lit.int .u64 z.2.1).wf = true := (h.2.2.2.2 z hz).2.1
  have h3 := bounds_u64 h2
  exact ⟨h3.1, Int.lt_of_le_of_lt h3.2 (by decide)⟩
end Go.Proofs.Ytjohfkpgghnpeaa.ItmPr
end
