-- WRITTEN BY wip/tools/xprint.py: a program of this claim's session, over the kit's print.py, with given contracts
import Derived.Test.YtanlfhhliogmjaaDoorPFnExactReadPathx0
import Derived.Test.YtanlfhhliogmjaaDoorPFnExactReadPathx1
import Derived.Test.YtanlfhhliogmjaaDoorPFnExactReadPathx2
import Derived.Test.YtanlfhhliogmjaaDoorPFnExactReadPathx3
namespace Go.Proofs.YtanlfhhliogmjaaDoor.PFnExactReadPath
open Go.Proofs.YtanlfhhliogmjaaDoor.Given
open Go.RowKit Go.Proofs.YtanlfhhliogmjaaDoorW.PrintWords Go.Proofs.YtanlfhhliogmjaaDoorW.PrintLast Go.Proofs.YtanlfhhliogmjaaDoorW.PrintMore
attribute [local go_sem] max2_int min2_int max_two min_two max_three min_three max_four min_four   -- for this text's walks alone
set_option linter.unusedVariables false
set_option linter.unusedSimpArgs false

end Go.Proofs.YtanlfhhliogmjaaDoor.PFnExactReadPath
