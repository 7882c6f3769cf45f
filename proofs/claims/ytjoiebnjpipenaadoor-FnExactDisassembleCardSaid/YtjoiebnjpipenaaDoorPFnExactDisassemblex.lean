/- Printed by a program out of the translation, with contracts of my own set in. -/
import Derived.Test.YtjoiebnjpipenaaDoorPFnExactDisassemblex0
import Derived.Test.YtjoiebnjpipenaaDoorPFnExactDisassemblex1
import Derived.Test.YtjoiebnjpipenaaDoorPFnExactDisassemblex2
import Derived.Test.YtjoiebnjpipenaaDoorPFnExactDisassemblex3
import Derived.Test.YtjoiebnjpipenaaDoorPFnExactDisassemblex4
import Derived.Test.YtjoiebnjpipenaaDoorPFnExactDisassemblex5
import Derived.Test.YtjoiebnjpipenaaDoorPFnExactDisassemblex6
namespace Go.Proofs.YtjoiebnjpipenaaDoor.PFnExactDisassemble
open Go.RowKit Go.Proofs.YtjoiebnjpipenaaDoorW.PrintWords Go.Proofs.YtjoiebnjpipenaaDoorW.PrintLast Go.Proofs.YtjoiebnjpipenaaDoorW.PrintMore
attribute [local go_sem] max2_int min2_int max_two min_two max_three min_three max_four min_four   -- for this text's walks alone
set_option linter.unusedVariables false
set_option linter.unusedSimpArgs false

end Go.Proofs.YtjoiebnjpipenaaDoor.PFnExactDisassemble
