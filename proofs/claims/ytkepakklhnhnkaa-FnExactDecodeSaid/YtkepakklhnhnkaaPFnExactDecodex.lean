/- Printed by a program out of the translation, with contracts of my own set in. -/
import Derived.Test.YtkepakklhnhnkaaPFnExactDecodex0
import Derived.Test.YtkepakklhnhnkaaPFnExactDecodex1
import Derived.Test.YtkepakklhnhnkaaPFnExactDecodex2
namespace Go.Proofs.Ytkepakklhnhnkaa.PFnExactDecode
open Go.RowKit Go.Proofs.YtkepakklhnhnkaaW.PrintWords Go.Proofs.YtkepakklhnhnkaaW.PrintLast Go.Proofs.YtkepakklhnhnkaaW.PrintMore
attribute [local go_sem] max2_int min2_int max_two min_two max_three min_three max_four min_four   -- for this text's walks alone
set_option linter.unusedVariables false
set_option linter.unusedSimpArgs false

end Go.Proofs.Ytkepakklhnhnkaa.PFnExactDecode
