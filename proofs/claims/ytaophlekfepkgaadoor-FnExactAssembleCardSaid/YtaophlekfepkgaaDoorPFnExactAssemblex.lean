/- Printed by a program out of the translation, with contracts of my own set in. -/
import Derived.Test.YtaophlekfepkgaaDoorPFnExactAssemblex0
import Derived.Test.YtaophlekfepkgaaDoorPFnExactAssemblex1
import Derived.Test.YtaophlekfepkgaaDoorPFnExactAssemblex2
import Derived.Test.YtaophlekfepkgaaDoorPFnExactAssemblex3
import Derived.Test.YtaophlekfepkgaaDoorPFnExactAssemblex4
import Derived.Test.YtaophlekfepkgaaDoorPFnExactAssemblex5
import Derived.Test.YtaophlekfepkgaaDoorPFnExactAssemblex6
import Derived.Test.YtaophlekfepkgaaDoorPFnExactAssemblex7
import Derived.Test.YtaophlekfepkgaaDoorPFnExactAssemblex8
import Derived.Test.YtaophlekfepkgaaDoorPFnExactAssemblex9
namespace Go.Proofs.YtaophlekfepkgaaDoor.PFnExactAssemble
open Go.RowKit Go.Proofs.YtaophlekfepkgaaDoorW.PrintWords Go.Proofs.YtaophlekfepkgaaDoorW.PrintLast Go.Proofs.YtaophlekfepkgaaDoorW.PrintMore
attribute [local go_sem] max2_int min2_int max_two min_two max_three min_three max_four min_four   -- for this text's walks alone
set_option linter.unusedVariables false
set_option linter.unusedSimpArgs false

end Go.Proofs.YtaophlekfepkgaaDoor.PFnExactAssemble
