/- Printed by a program out of the translation, with contracts of my own set in. -/
import Derived.Test.YtaophlekfepkgaaGreatDoorPFnAssemblex0
import Derived.Test.YtaophlekfepkgaaGreatDoorPFnAssemblex1
import Derived.Test.YtaophlekfepkgaaGreatDoorPFnAssemblex2
import Derived.Test.YtaophlekfepkgaaGreatDoorPFnAssemblex3
import Derived.Test.YtaophlekfepkgaaGreatDoorPFnAssemblex4
import Derived.Test.YtaophlekfepkgaaGreatDoorPFnAssemblex5
import Derived.Test.YtaophlekfepkgaaGreatDoorPFnAssemblex6
import Derived.Test.YtaophlekfepkgaaGreatDoorPFnAssemblex7
import Derived.Test.YtaophlekfepkgaaGreatDoorPFnAssemblex8
namespace Go.Proofs.YtaophlekfepkgaaGreatDoor.PFnAssemble
open Go.RowKit Go.Proofs.YtaophlekfepkgaaGreatDoorW.PrintWords Go.Proofs.YtaophlekfepkgaaGreatDoorW.PrintLast Go.Proofs.YtaophlekfepkgaaGreatDoorW.PrintMore
attribute [local go_sem] max2_int min2_int max_two min_two max_three min_three max_four min_four   -- for this text's walks alone
set_option linter.unusedVariables false
set_option linter.unusedSimpArgs false

end Go.Proofs.YtaophlekfepkgaaGreatDoor.PFnAssemble
