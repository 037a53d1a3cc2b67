-- by gprint.py (wip/tools), a program of this repo
import Derived.Test.YtjkjcpbhlgjgcaaDoorPFrx0
import Derived.Test.YtjkjcpbhlgjgcaaDoorPFrx1
import Derived.Test.YtjkjcpbhlgjgcaaDoorPFrx2
namespace Go.Proofs.YtjkjcpbhlgjgcaaDoor.PFr
open Go.RowKit Go.Proofs.YtjkjcpbhlgjgcaaDoorW.PrintWords Go.Proofs.YtjkjcpbhlgjgcaaDoorW.PrintLast Go.Proofs.YtjkjcpbhlgjgcaaDoorW.PrintMore
attribute [local go_sem] max2_int min2_int max_two min_two max_three min_three max_four min_four   -- for this text's walks alone
open Go.Proofs.YtjkjcpbhlgjgcaaDoor.Gv Go.Proofs.YtjkjcpbhlgjgcaaDoor.PNum
set_option linter.unusedVariables false
set_option linter.unusedSimpArgs false

end Go.Proofs.YtjkjcpbhlgjgcaaDoor.PFr
