-- packed by pack.py, a program of this claim's repo
import Derived.Test.YtjohfkpgghnpeaaIuB
import Derived.Test.YtjohfkpgghnpeaaIuC
import Derived.Test.YtjohfkpgghnpeaaIuD
import Derived.Test.YtjohfkpgghnpeaaIuE
import Derived.Test.YtjohfkpgghnpeaaIuF
import Derived.Test.YtjohfkpgghnpeaaIuA
import Derived.Test.YtjohfkpgghnpeaaIuG
import Derived.Test.YtjohfkpgghnpeaaIuH
import Derived.Test.YtjohfkpgghnpeaaIuI
import Derived.Test.YtjohfkpgghnpeaaIuJ
import Derived.Test.YtjohfkpgghnpeaaIuK
import Derived.Test.YtjohfkpgghnpeaaIuL
import Derived.Test.YtjohfkpgghnpeaaIuM
import Derived.Test.YtjohfkpgghnpeaaIuN
import Derived.Test.YtjohfkpgghnpeaaIuO
import Derived.Test.YtjohfkpgghnpeaaIuP
import Derived.Test.YtjohfkpgghnpeaaIuQ
import Derived.Test.YtjohfkpgghnpeaaIuR
import Derived.Test.YtjohfkpgghnpeaaIuS
import Derived.Test.YtjohfkpgghnpeaaIuT
import Derived.Test.YtjohfkpgghnpeaaIuU
import Derived.Test.YtjohfkpgghnpeaaIuV
import Derived.Test.YtjohfkpgghnpeaaIuW
import Derived.Test.YtjohfkpgghnpeaaIuX
import Derived.Test.YtjohfkpgghnpeaaIuY
import Derived.Test.YtjohfkpgghnpeaaIuZ
section
namespace Go.Proofs.Ytjohfkpgghnpeaa.itemsTake
open Go Go.RowKit
open Go.Proofs.Ytjohfkpgghnpeaa.Open
open Go.Proofs.Ytjohfkpgghnpeaa.ItmPr
open Go.Proofs.Ytjohfkpgghnpeaa.PIT
set_option linter.unusedVariables false
set_option maxRecDepth 20000 in
theorem walk {H : Type} {enc : TypeId × Value → H} {W : World} {b : Nat} {v0 : Value} (ok0 : Value.okWide Try.prog W .any b 22 v0) {d0 : DataW H} {p0 : List MemPlace} (h0 : DataW.Trod enc Try.prog W 0 (fun _ => true) true 22 v0 d0 p0) (a1 : Int) (w1 : (Lit.int .i64 a1).wf = true) (a2 : ByteArray) (w2 : a2.size ≤ 140737488351232) :
    Calls Try.prog 11 #[v0, .int .i64 a1, .string a2] W fun e w' => e = .returned (.bool true) ∧ Below W.heap.size W w' := by
  obtain ⟨x, rfl, hok⟩ := open_sl shH Try.underlying22 (by kernel_rfl) ok0 h0
  have ha : -9223372036854775808 ≤ a1 ∧ a1 ≤ 9223372036854775807 := bounds_i64 w1
  have hl := take_law _ (held_size x hok) (held_ver x hok) a1 ha a2.data.toList (by rw [← NumPr.bs_size, NumPr.bs_mk]; omega) 600 (by decide)
  rw [NumPr.bs_mk] at hl
  have h := tarnlaw09_ItemsTake.calls 600 x.A x.cap (x.l.map ofSh) a1 a2 true W (C_held x hok) (by rw [List.length_map]; exact hok.1) hl
  rw [List.length_map] at h
  exact h
end Go.Proofs.Ytjohfkpgghnpeaa.itemsTake
end
