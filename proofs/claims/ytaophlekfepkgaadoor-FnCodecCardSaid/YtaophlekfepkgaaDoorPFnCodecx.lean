/- Printed by a program out of the translation, with contracts of my own set in. -/
import Derived.Test.YtaophlekfepkgaaDoorPFnCodecx0
import Derived.Test.YtaophlekfepkgaaDoorPFnCodecx1
import Derived.Test.YtaophlekfepkgaaDoorPFnCodecx2
import Derived.Test.YtaophlekfepkgaaDoorPFnCodecx3
import Derived.Test.YtaophlekfepkgaaDoorPFnCodecx4
import Derived.Test.YtaophlekfepkgaaDoorPFnCodecx5
import Derived.Test.YtaophlekfepkgaaDoorPFnCodecx6
import Derived.Test.YtaophlekfepkgaaDoorPFnCodecx7
import Derived.Test.YtaophlekfepkgaaDoorPFnCodecx8
import Derived.Test.YtaophlekfepkgaaDoorPFnCodecx9
namespace Go.Proofs.YtaophlekfepkgaaDoor.PFnCodec
open Go.RowKit Go.Proofs.YtaophlekfepkgaaDoorW.PrintWords Go.Proofs.YtaophlekfepkgaaDoorW.PrintLast Go.Proofs.YtaophlekfepkgaaDoorW.PrintMore
attribute [local go_sem] max2_int min2_int max_two min_two max_three min_three max_four min_four   -- for this text's walks alone
set_option linter.unusedVariables false
set_option linter.unusedSimpArgs false

end Go.Proofs.YtaophlekfepkgaaDoor.PFnCodec
