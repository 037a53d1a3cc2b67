-- packed by pack.py, a program of this claim's repo
import Derived.Test.YtjohfkpgghnpeaaIqV
import Derived.Test.YtjohfkpgghnpeaaIqA
import Derived.Test.YtjohfkpgghnpeaaIqI
import Derived.Test.YtjohfkpgghnpeaaIqJ
section
namespace Go.Proofs.Ytjohfkpgghnpeaa.OpenKd
open Go Go.RowKit
open Go.Proofs.Ytjohfkpgghnpeaa.Open
open Go.Proofs.YtjohfkpgghnpeaaW.PrintWords
set_option linter.unusedVariables false
end Go.Proofs.Ytjohfkpgghnpeaa.OpenKd
end
