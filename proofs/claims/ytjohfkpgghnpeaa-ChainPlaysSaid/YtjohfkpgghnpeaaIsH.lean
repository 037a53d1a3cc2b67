-- packed by pack.py, a program of this claim's repo
import Derived.Test.YtjohfkpgghnpeaaIsB
import Derived.Test.YtjohfkpgghnpeaaIsC
import Derived.Test.YtjohfkpgghnpeaaIsF
import Derived.Test.YtjohfkpgghnpeaaIsG
import Derived.Lib.BufferOwn
import Derived.Lib.BufferWrite
import Derived.Lib.ConvBytes
import Derived.Laws.BitsAllLaws
section
namespace Go.Proofs.Ytjohfkpgghnpeaa.NumC
open Go Go.RowKit
open Go.Proofs.Ytjohfkpgghnpeaa.Gen
open Go.Proofs.Ytjohfkpgghnpeaa.Num
set_option linter.unusedVariables false
theorem grefl (w : World) (row : Option Nat) : w.grownBy w row := ⟨rfl, rfl, rfl, Nat.le_refl _, fun _ _ _ => rfl⟩
structure Src (w : World) (b : Nat) (all : List UInt8) (r : R) : Prop where
  c0 : w.cell? ⟨b, 0, none⟩ = some (.string ⟨all.toArray⟩)
  c1 : w.cell? ⟨b, 1, none⟩ = some (.int .i64 ((all.length - r.s.length : Nat) : Int))
  c2 : w.cell? ⟨b, 2, none⟩ = some (.int .i64 (r.err : Int))
  f1 : w.frozen? ⟨b, 1, none⟩ = false
  f2 : w.frozen? ⟨b, 2, none⟩ = false
  suf : r.s <:+ all
  ok : r.ok
  len : all.length ≤ 140737488355328
  err : r.err ≤ 1000
theorem Src.lt {w : World} {b : Nat} {all : List UInt8} {r : R} (h : Src w b all r) : b < w.heap.size := World.block_lt_of_cell? w _ h.c0
theorem Src.grown {w w' : World} {b : Nat} {all : List UInt8} {r : R} {row : Option Nat} (h : Src w b all r) (hg : w.grownBy w' row) (hr : some b ≠ row) : Src w' b all r :=
  { h with
    c0 := hg.cell h.c0 hr
    c1 := hg.cell h.c1 hr
    c2 := hg.cell h.c2 hr
    f1 := by rw [World.frozen?_of_block (a := ⟨b, 1, none⟩) (hg.block b h.lt hr)]; exact h.f1
    f2 := by rw [World.frozen?_of_block (a := ⟨b, 2, none⟩) (hg.block b h.lt hr)]; exact h.f2 }
theorem cell_set {w : World} {b i j : Nat} {u v : Value} (hc : w.cell? ⟨b, i, none⟩ = some u) : (w.setCell ⟨b, j, none⟩ v).cell? ⟨b, i, none⟩ = some (if i = j then v else u) := by
  by_cases hij : i = j
  · subst hij
    rw [World.cell?_setCell_same (h := hc), if_pos rfl]
  · rw [World.cell?_setCell_other (h := fun e => hij (by simpa using (congrArg Addr.off e).symm)), hc, if_neg hij]
theorem Src.below {w w' : World} {b : Nat} {all : List UInt8} {r : R} (h : Src w b all r) (hb : Below w.heap.size w w') : Src w' b all r :=
  h.grown (row := none) (Lib.grownBy_below (grefl w none) hb) (by simp)
theorem ext (l : List UInt8) (i j : Nat) : (⟨l.toArray⟩ : ByteArray).extract i j = ⟨((l.drop i).take (j - i)).toArray⟩ := by
  apply ByteArray.ext
  rw [ByteArray.data_extract]
  apply Array.ext'
  simp [List.extract]
end Go.Proofs.Ytjohfkpgghnpeaa.NumC
end
section
namespace Go.Proofs.Ytjohfkpgghnpeaa.NumC
open Go Go.RowKit
open Go.Proofs.Ytjohfkpgghnpeaa.Gen
open Go.Proofs.Ytjohfkpgghnpeaa.Num
set_option linter.unusedVariables false
end Go.Proofs.Ytjohfkpgghnpeaa.NumC
end
