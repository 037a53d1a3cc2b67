-- packed by pack.py, a program of this claim's repo
import Derived.Test.YtjohfkpgghnpeaaIoB
import Derived.Test.YtjohfkpgghnpeaaIoC
import Derived.Test.YtjohfkpgghnpeaaIoF
import Derived.Test.YtjohfkpgghnpeaaIoG
import Derived.Test.YtjohfkpgghnpeaaIoH
import Derived.Test.YtjohfkpgghnpeaaIoD
section
namespace Go.Proofs.Ytjohfkpgghnpeaa.NumC
open Go Go.RowKit
open Go.Proofs.Ytjohfkpgghnpeaa.Gen
open Go.Proofs.Ytjohfkpgghnpeaa.Num
open Go.Proofs.Ytjohfkpgghnpeaa.Own
set_option linter.unusedVariables false
end Go.Proofs.Ytjohfkpgghnpeaa.NumC
end
