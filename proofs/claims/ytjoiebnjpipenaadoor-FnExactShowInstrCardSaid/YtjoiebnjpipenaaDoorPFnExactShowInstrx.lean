/- Printed by a program out of the translation, with contracts of my own set in. -/
import Derived.Test.YtjoiebnjpipenaaDoorPFnExactShowInstrx0
import Derived.Test.YtjoiebnjpipenaaDoorPFnExactShowInstrx1
import Derived.Test.YtjoiebnjpipenaaDoorPFnExactShowInstrx2
import Derived.Test.YtjoiebnjpipenaaDoorPFnExactShowInstrx3
import Derived.Test.YtjoiebnjpipenaaDoorPFnExactShowInstrx4
namespace Go.Proofs.YtjoiebnjpipenaaDoor.PFnExactShowInstr
open Go.RowKit Go.Proofs.YtjoiebnjpipenaaDoorW.PrintWords Go.Proofs.YtjoiebnjpipenaaDoorW.PrintLast Go.Proofs.YtjoiebnjpipenaaDoorW.PrintMore
attribute [local go_sem] max2_int min2_int max_two min_two max_three min_three max_four min_four   -- for this text's walks alone
set_option linter.unusedVariables false
set_option linter.unusedSimpArgs false

end Go.Proofs.YtjoiebnjpipenaaDoor.PFnExactShowInstr
