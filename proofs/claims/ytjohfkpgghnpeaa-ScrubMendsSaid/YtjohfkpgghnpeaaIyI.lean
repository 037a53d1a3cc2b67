-- packed by pack.py, a program of this claim's repo
import Derived.Test.YtjohfkpgghnpeaaIyB
import Derived.Test.YtjohfkpgghnpeaaIyC
import Derived.Test.YtjohfkpgghnpeaaIyG
import Derived.Test.YtjohfkpgghnpeaaIyH
import Derived.Lib.BufferOwn
import Derived.Lib.BufferWrite
import Derived.Lib.ConvBytes
import Derived.Laws.BitsAllLaws
section
namespace Go.Proofs.Ytjohfkpgghnpeaa.NumC
open Go Go.RowKit
open Go.Proofs.Ytjohfkpgghnpeaa.Gen
open Go.Proofs.Ytjohfkpgghnpeaa.Num
set_option linter.unusedVariables false
structure Src (w : World) (b : Nat) (all : List UInt8) (r : R) : Prop where
  c0 : w.cell? ⟨b, 0, none⟩ = some (.string ⟨all.toArray⟩)
  c1 : w.cell? ⟨b, 1, none⟩ = some (.int .i64 ((all.length - r.s.length : Nat) : Int))
  c2 : w.cell? ⟨b, 2, none⟩ = some (.int .i64 (r.err : Int))
  f1 : w.frozen? ⟨b, 1, none⟩ = false
  f2 : w.frozen? ⟨b, 2, none⟩ = false
  suf : r.s <:+ all
  ok : r.ok
  len : all.length ≤ 140737488355328
  err : r.err ≤ 1000
theorem cell_set {w : World} {b i j : Nat} {u v : Value} (hc : w.cell? ⟨b, i, none⟩ = some u) : (w.setCell ⟨b, j, none⟩ v).cell? ⟨b, i, none⟩ = some (if i = j then v else u) := by
  by_cases hij : i = j
  · subst hij
    rw [World.cell?_setCell_same (h := hc), if_pos rfl]
  · rw [World.cell?_setCell_other (h := fun e => hij (by simpa using (congrArg Addr.off e).symm)), hc, if_neg hij]
theorem ext (l : List UInt8) (i j : Nat) : (⟨l.toArray⟩ : ByteArray).extract i j = ⟨((l.drop i).take (j - i)).toArray⟩ := by
  apply ByteArray.ext
  rw [ByteArray.data_extract]
  apply Array.ext'
  simp [List.extract]
end Go.Proofs.Ytjohfkpgghnpeaa.NumC
end
section
namespace Go.Proofs.Ytjohfkpgghnpeaa.NumC
open Go Go.RowKit
open Go.Proofs.Ytjohfkpgghnpeaa.Gen
open Go.Proofs.Ytjohfkpgghnpeaa.Num
set_option linter.unusedVariables false
end Go.Proofs.Ytjohfkpgghnpeaa.NumC
end
