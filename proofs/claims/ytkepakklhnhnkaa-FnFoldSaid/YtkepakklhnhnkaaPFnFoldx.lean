/- Printed by a program out of the translation, with contracts of my own set in. -/
import Derived.Test.YtkepakklhnhnkaaPFnFoldx0
import Derived.Test.YtkepakklhnhnkaaPFnFoldx1
import Derived.Test.YtkepakklhnhnkaaPFnFoldx2
namespace Go.Proofs.Ytkepakklhnhnkaa.PFnFold
open Go.RowKit Go.Proofs.YtkepakklhnhnkaaW.PrintWords Go.Proofs.YtkepakklhnhnkaaW.PrintLast Go.Proofs.YtkepakklhnhnkaaW.PrintMore
attribute [local go_sem] max2_int min2_int max_two min_two max_three min_three max_four min_four   -- for this text's walks alone
set_option linter.unusedVariables false
set_option linter.unusedSimpArgs false

end Go.Proofs.Ytkepakklhnhnkaa.PFnFold
