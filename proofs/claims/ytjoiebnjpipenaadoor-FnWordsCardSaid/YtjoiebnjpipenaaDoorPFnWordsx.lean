/- Printed by a program out of the translation, with contracts of my own set in. -/
import Derived.Test.YtjoiebnjpipenaaDoorPFnWordsx0
import Derived.Test.YtjoiebnjpipenaaDoorPFnWordsx1
import Derived.Test.YtjoiebnjpipenaaDoorPFnWordsx2
namespace Go.Proofs.YtjoiebnjpipenaaDoor.PFnWords
open Go.RowKit Go.Proofs.YtjoiebnjpipenaaDoorW.PrintWords Go.Proofs.YtjoiebnjpipenaaDoorW.PrintLast Go.Proofs.YtjoiebnjpipenaaDoorW.PrintMore
attribute [local go_sem] max2_int min2_int max_two min_two max_three min_three max_four min_four   -- for this text's walks alone
set_option linter.unusedVariables false
set_option linter.unusedSimpArgs false

end Go.Proofs.YtjoiebnjpipenaaDoor.PFnWords
