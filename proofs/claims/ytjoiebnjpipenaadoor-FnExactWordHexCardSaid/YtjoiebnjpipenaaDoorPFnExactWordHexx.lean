/- Printed by a program out of the translation, with contracts of my own set in. -/
import Derived.Test.YtjoiebnjpipenaaDoorPFnExactWordHexx0
import Derived.Test.YtjoiebnjpipenaaDoorPFnExactWordHexx1
namespace Go.Proofs.YtjoiebnjpipenaaDoor.PFnExactWordHex
open Go.RowKit Go.Proofs.YtjoiebnjpipenaaDoorW.PrintWords Go.Proofs.YtjoiebnjpipenaaDoorW.PrintLast Go.Proofs.YtjoiebnjpipenaaDoorW.PrintMore
attribute [local go_sem] max2_int min2_int max_two min_two max_three min_three max_four min_four   -- for this text's walks alone
set_option linter.unusedVariables false
set_option linter.unusedSimpArgs false

end Go.Proofs.YtjoiebnjpipenaaDoor.PFnExactWordHex
