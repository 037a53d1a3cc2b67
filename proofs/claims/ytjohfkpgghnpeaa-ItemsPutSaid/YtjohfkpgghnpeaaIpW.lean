-- packed by pack.py, a program of this claim's repo
import Derived.Test.YtjohfkpgghnpeaaIpC
import Derived.Test.YtjohfkpgghnpeaaIpD
import Derived.Test.YtjohfkpgghnpeaaIpE
import Derived.Test.YtjohfkpgghnpeaaIpB
import Derived.Test.YtjohfkpgghnpeaaIpF
import Derived.Test.YtjohfkpgghnpeaaIpG
import Derived.Test.YtjohfkpgghnpeaaIpH
import Derived.Test.YtjohfkpgghnpeaaIpA
import Derived.Test.YtjohfkpgghnpeaaIpI
import Derived.Test.YtjohfkpgghnpeaaIpJ
import Derived.Test.YtjohfkpgghnpeaaIpK
import Derived.Test.YtjohfkpgghnpeaaIpL
import Derived.Test.YtjohfkpgghnpeaaIpM
import Derived.Test.YtjohfkpgghnpeaaIpN
import Derived.Test.YtjohfkpgghnpeaaIpO
import Derived.Test.YtjohfkpgghnpeaaIpP
import Derived.Test.YtjohfkpgghnpeaaIpQ
import Derived.Test.YtjohfkpgghnpeaaIpR
import Derived.Test.YtjohfkpgghnpeaaIpS
import Derived.Test.YtjohfkpgghnpeaaIpT
import Derived.Test.YtjohfkpgghnpeaaIpU
import Derived.Test.YtjohfkpgghnpeaaIpV
section
namespace Go.Proofs.Ytjohfkpgghnpeaa.itemsPut
open Go Go.RowKit
open Go.Proofs.Ytjohfkpgghnpeaa.Open
open Go.Proofs.Ytjohfkpgghnpeaa.ItmPr
open Go.Proofs.Ytjohfkpgghnpeaa.PIP
set_option linter.unusedVariables false
set_option maxRecDepth 20000 in
theorem walk {H : Type} {enc : TypeId × Value → H} {W : World} {b : Nat} {v0 : Value} (ok0 : Value.okWide Try.prog W .any b 22 v0) {d0 : DataW H} {p0 : List MemPlace} (h0 : DataW.Trod enc Try.prog W 0 (fun _ => true) true 22 v0 d0 p0) :
    Calls Try.prog 12 #[v0] W fun e w' => e = .returned (.bool true) ∧ Below W.heap.size W w' := by
  obtain ⟨x, rfl, hok⟩ := open_sl shH Try.underlying22 (by kernel_rfl) ok0 h0
  have h := tarnlaw09_ItemsPut.calls 600 x.A x.cap (x.l.map ofSh) true W (C_held x hok) (by rw [List.length_map]; exact hok.1) (put_law _ (held_size x hok) (held_ver x hok) 600 (by decide))
  rw [List.length_map] at h
  exact h
end Go.Proofs.Ytjohfkpgghnpeaa.itemsPut
end
