-- packed by pack.py, a program of this claim's repo
import Derived.Test.YtjohfkpgghnpeaaIoB
import Derived.Test.YtjohfkpgghnpeaaIoC
import Derived.Test.YtjohfkpgghnpeaaIoF
import Derived.Test.YtjohfkpgghnpeaaIoG
import Derived.Lib.BufferOwn
import Derived.Lib.BufferWrite
import Derived.Lib.ConvBytes
import Derived.Laws.BitsAllLaws
section
namespace Go.Proofs.Ytjohfkpgghnpeaa.NumC
open Go Go.RowKit
open Go.Proofs.Ytjohfkpgghnpeaa.Gen
open Go.Proofs.Ytjohfkpgghnpeaa.Num
set_option linter.unusedVariables false
structure Src (w : World) (b : Nat) (all : List UInt8) (r : R) : Prop where
  c0 : w.cell? ⟨b, 0, none⟩ = some (.string ⟨all.toArray⟩)
  c1 : w.cell? ⟨b, 1, none⟩ = some (.int .i64 ((all.length - r.s.length : Nat) : Int))
  c2 : w.cell? ⟨b, 2, none⟩ = some (.int .i64 (r.err : Int))
  f1 : w.frozen? ⟨b, 1, none⟩ = false
  f2 : w.frozen? ⟨b, 2, none⟩ = false
  suf : r.s <:+ all
  ok : r.ok
  len : all.length ≤ 140737488355328
  err : r.err ≤ 1000
end Go.Proofs.Ytjohfkpgghnpeaa.NumC
end
section
namespace Go.Proofs.Ytjohfkpgghnpeaa.NumC
open Go Go.RowKit
open Go.Proofs.Ytjohfkpgghnpeaa.Gen
open Go.Proofs.Ytjohfkpgghnpeaa.Num
set_option linter.unusedVariables false
end Go.Proofs.Ytjohfkpgghnpeaa.NumC
end
