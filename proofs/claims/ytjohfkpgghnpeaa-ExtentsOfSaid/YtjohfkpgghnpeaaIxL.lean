-- packed by pack.py, a program of this claim's repo
import Derived.Test.YtjohfkpgghnpeaaIxB
import Derived.Test.YtjohfkpgghnpeaaIxC
import Derived.Test.YtjohfkpgghnpeaaIxF
import Derived.Test.YtjohfkpgghnpeaaIxG
import Derived.Test.YtjohfkpgghnpeaaIxH
import Derived.Test.YtjohfkpgghnpeaaIxD
section
namespace Go.Proofs.Ytjohfkpgghnpeaa.NumC
open Go Go.RowKit
open Go.Proofs.Ytjohfkpgghnpeaa.Gen
open Go.Proofs.Ytjohfkpgghnpeaa.Num
open Go.Proofs.Ytjohfkpgghnpeaa.Own
set_option linter.unusedVariables false
theorem cut (l : List UInt8) (n : Nat) : (⟨l.toArray⟩ : ByteArray).extract 0 (min (l.length : Int) (n : Int)).toNat = ⟨(l.take n).toArray⟩ := by
  rw [ext]
  congr 2
  rw [List.drop_zero, Nat.sub_zero]
  rw [List.take_eq_take_iff]
  omega
end Go.Proofs.Ytjohfkpgghnpeaa.NumC
end
