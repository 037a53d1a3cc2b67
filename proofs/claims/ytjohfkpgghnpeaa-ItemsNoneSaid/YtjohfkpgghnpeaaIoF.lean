-- packed by pack.py, a program of this claim's repo
import Derived.Test.YtjohfkpgghnpeaaIoC
import Derived.Shelf.Strings.Builder1
import Derived.Test.YtjohfkpgghnpeaaProg
section
namespace Go.Proofs.Ytjohfkpgghnpeaa.Bld
open Go Go.Shelf Go.RowKit Go.Proofs.Ytjohfkpgghnpeaa.Gen
def ren : Go.Shelf.Ren := ⟨fun | 166 => 128 | 167 => 100 | 169 => 101 | 240 => 114 | 276 => 131 | n => n,
  fun | 0 => 0 | 3 => 3 | 4 => 4 | 5 => 5 | 9 => 9 | 20 => 20 | 37 => 121 | 70 => 134 | 72 => 136 | 75 => 138 | 80 => 122 | 127 => 147 | 164 => 164 | n => n, fun | n => n⟩
def IsB (w : World) (B b : Nat) (l : List UInt8) : Prop := Lib.IsBuilder 136 5 B b (Lib.byteCells l) w
end Go.Proofs.Ytjohfkpgghnpeaa.Bld
end
