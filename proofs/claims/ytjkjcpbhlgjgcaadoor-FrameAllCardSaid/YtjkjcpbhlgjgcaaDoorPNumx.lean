-- by gprint.py (wip/tools), a program of this repo
import Derived.Test.YtjkjcpbhlgjgcaaDoorPNumx0
import Derived.Test.YtjkjcpbhlgjgcaaDoorPNumx1
import Derived.Test.YtjkjcpbhlgjgcaaDoorPNumx2
import Derived.Test.YtjkjcpbhlgjgcaaDoorPNumx3
import Derived.Test.YtjkjcpbhlgjgcaaDoorPNumx4
namespace Go.Proofs.YtjkjcpbhlgjgcaaDoor.PNum
open Go.RowKit Go.Proofs.YtjkjcpbhlgjgcaaDoorW.PrintWords Go.Proofs.YtjkjcpbhlgjgcaaDoorW.PrintLast Go.Proofs.YtjkjcpbhlgjgcaaDoorW.PrintMore
attribute [local go_sem] max2_int min2_int max_two min_two max_three min_three max_four min_four   -- for this text's walks alone
open Go.Proofs.YtjkjcpbhlgjgcaaDoor.Gv
set_option linter.unusedVariables false
set_option linter.unusedSimpArgs false

end Go.Proofs.YtjkjcpbhlgjgcaaDoor.PNum
