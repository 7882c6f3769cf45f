/- Printed by a program out of the translation, with contracts of my own set in. -/
import Derived.Test.YtboginbepgopeaaPFnExactWritesx0
import Derived.Test.YtboginbepgopeaaPFnExactWritesx1
import Derived.Test.YtboginbepgopeaaPFnExactWritesx2
import Derived.Test.YtboginbepgopeaaPFnExactWritesx3
import Derived.Test.YtboginbepgopeaaPFnExactWritesx4
namespace Go.Proofs.Ytboginbepgopeaa.PFnExactWrites
open Go.RowKit Go.Proofs.YtboginbepgopeaaW.PrintWords Go.Proofs.YtboginbepgopeaaW.PrintLast Go.Proofs.YtboginbepgopeaaW.PrintMore
attribute [local go_sem] max2_int min2_int max_two min_two max_three min_three max_four min_four   -- for this text's walks alone
set_option linter.unusedVariables false
set_option linter.unusedSimpArgs false

end Go.Proofs.Ytboginbepgopeaa.PFnExactWrites
