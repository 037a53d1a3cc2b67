-- packed by pack.py, a program of this claim's repo
import Derived.Test.YtjohfkpgghnpeaaIyC
import Derived.Shelf.Strings.Builder1
import Derived.Test.YtjohfkpgghnpeaaProg
section
namespace Go.Proofs.Ytjohfkpgghnpeaa.Bld
open Go Go.Shelf Go.RowKit Go.Proofs.Ytjohfkpgghnpeaa.Gen
def ren : Go.Shelf.Ren := ⟨fun | 166 => 128 | 167 => 100 | 169 => 101 | 240 => 114 | 276 => 131 | n => n,
  fun | 0 => 0 | 3 => 3 | 4 => 4 | 5 => 5 | 9 => 9 | 20 => 20 | 37 => 121 | 70 => 134 | 72 => 136 | 75 => 138 | 80 => 122 | 127 => 147 | 164 => 164 | n => n, fun | n => n⟩
theorem l169 : Go.Proofs.Lays.n169 Try.prog ren := {
  mixed := by kernel_rfl
  f169 := Try.func101.trans (congrArg some (by kernel_rfl))
  t0 := Try.underlying0
  a0 := Try.isAgg0
  z0 := Try.sizeOf0
  v0 := Try.zeroValue0
  t3 := Try.underlying3
  a3 := Try.isAgg3
  z3 := Try.sizeOf3
  v3 := Try.zeroValue3
  t9 := Try.underlying9
  a9 := Try.isAgg9
  z9 := Try.sizeOf9
  v9 := Try.zeroValue9
  t37 := Try.underlying121
  a37 := Try.isAgg121
  z37 := Try.sizeOf121
  v37 := Try.zeroValue121
  t70 := Try.underlying134
  a70 := Try.isAgg134
  z70 := Try.sizeOf134
  v70 := Try.zeroValue134
  t72 := Try.underlying136
  a72 := Try.isAgg136
  z72 := Try.sizeOf136
  v72 := Try.zeroValue136
  t127 := Try.underlying147
  a127 := Try.isAgg147
  z127 := Try.sizeOf147
  v127 := Try.zeroValue147 }
theorem extra : Builder.Extra Try.prog ren := {
  sizeBuilder := by kernel_rfl
  liesBuilder := by kernel_rfl
  t5 := Try.underlying5
  a5 := Try.isAgg5
  z5 := Try.sizeOf5
  v5 := Try.zeroValue5
  infoByte := by kernel_rfl
  cellsByte := by kernel_rfl
  sizeByte := by kernel_rfl
  neB5 := by decide }
def IsB (w : World) (B b : Nat) (l : List UInt8) : Prop := Lib.IsBuilder 136 5 B b (Lib.byteCells l) w
theorem string (w : World) (B b : Nat) (l : List UInt8) (h : IsB w B b l) (hB : B ≤ w.heap.size) :
    Calls Try.prog 101 #[.pointer (some ⟨b, 0, none⟩)] w fun e w' => e = .returned (.string ⟨l.toArray⟩) ∧ Below B w w' :=
  Any.Builder_String_any l169 extra B b l w h hB
end Go.Proofs.Ytjohfkpgghnpeaa.Bld
end
