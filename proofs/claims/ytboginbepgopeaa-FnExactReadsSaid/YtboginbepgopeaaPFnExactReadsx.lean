/- Printed by a program out of the translation, with contracts of my own set in. -/
import Derived.Test.YtboginbepgopeaaPFnExactReadsx0
import Derived.Test.YtboginbepgopeaaPFnExactReadsx1
import Derived.Test.YtboginbepgopeaaPFnExactReadsx2
import Derived.Test.YtboginbepgopeaaPFnExactReadsx3
import Derived.Test.YtboginbepgopeaaPFnExactReadsx4
import Derived.Test.YtboginbepgopeaaPFnExactReadsx5
namespace Go.Proofs.Ytboginbepgopeaa.PFnExactReads
open Go.RowKit Go.Proofs.YtboginbepgopeaaW.PrintWords Go.Proofs.YtboginbepgopeaaW.PrintLast Go.Proofs.YtboginbepgopeaaW.PrintMore
attribute [local go_sem] max2_int min2_int max_two min_two max_three min_three max_four min_four   -- for this text's walks alone
set_option linter.unusedVariables false
set_option linter.unusedSimpArgs false

end Go.Proofs.Ytboginbepgopeaa.PFnExactReads
