/- Printed by a program out of the translation, with contracts of my own set in. -/
import Derived.Test.YtaophlekfepkgaaDoorPFnExactReadLinex0
import Derived.Test.YtaophlekfepkgaaDoorPFnExactReadLinex1
import Derived.Test.YtaophlekfepkgaaDoorPFnExactReadLinex2
import Derived.Test.YtaophlekfepkgaaDoorPFnExactReadLinex3
import Derived.Test.YtaophlekfepkgaaDoorPFnExactReadLinex4
import Derived.Test.YtaophlekfepkgaaDoorPFnExactReadLinex5
import Derived.Test.YtaophlekfepkgaaDoorPFnExactReadLinex6
namespace Go.Proofs.YtaophlekfepkgaaDoor.PFnExactReadLine
open Go.RowKit Go.Proofs.YtaophlekfepkgaaDoorW.PrintWords Go.Proofs.YtaophlekfepkgaaDoorW.PrintLast Go.Proofs.YtaophlekfepkgaaDoorW.PrintMore
attribute [local go_sem] max2_int min2_int max_two min_two max_three min_three max_four min_four   -- for this text's walks alone
set_option linter.unusedVariables false
set_option linter.unusedSimpArgs false

end Go.Proofs.YtaophlekfepkgaaDoor.PFnExactReadLine
