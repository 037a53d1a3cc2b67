-- packed by pack.py, a program of this claim's repo
import Derived.Test.YtjohfkpgghnpeaaIyB
import Derived.Test.YtjohfkpgghnpeaaIyC
import Derived.Test.YtjohfkpgghnpeaaIyG
import Derived.WalkSpells
import Derived.Deep.RegionHeld3
import Derived.Deep.RegionWith
import Derived.Deep.QuietTactic
import Derived.BigQuiet
import Derived.Outline
import Derived.Laws.BytesArg
section
namespace Go.Proofs.Ytjohfkpgghnpeaa.NumC
open Go Go.RowKit
open Go.Proofs.Ytjohfkpgghnpeaa.Gen
open Go.Proofs.Ytjohfkpgghnpeaa.Num
set_option linter.unusedVariables false
theorem ret_str {a b : ByteArray} (h : a = b) : Ending.returned (.string a) = .returned (.string b) := by rw [h]
theorem str_app2 (l m : List UInt8) : (⟨l.toArray⟩ : ByteArray) ++ ⟨m.toArray⟩ = ⟨(l ++ m).toArray⟩ := by rw [ByteArray.mk_append_mk]
theorem size_mk (l : List UInt8) : (⟨l.toArray⟩ : ByteArray).size = l.length := by show l.toArray.size = _; simp
def listUpto (l : List Int) (k : Nat) : List UInt8 := put l.length ++ (l.take k).flatMap fun n => put (max n 0).toNat
def Ints (w : World) (A : Option Addr) (l : List Int) : Prop := ∀ i, i < l.length → ∃ ad, A = some ad ∧ w.cell? (ad.add i) = some (.int .i64 (l[i]?.getD 0))
end Go.Proofs.Ytjohfkpgghnpeaa.NumC
end
section
namespace Go.Proofs.Ytjohfkpgghnpeaa.NumC
open Go Go.RowKit
open Go.Proofs.Ytjohfkpgghnpeaa.Gen
open Go.Proofs.Ytjohfkpgghnpeaa.Num
set_option linter.unusedVariables false
end Go.Proofs.Ytjohfkpgghnpeaa.NumC
end
