/- Printed by a program out of the translation, with contracts of my own set in. -/
import Derived.Test.YtboginbepgopeaaPFnWorstx0
import Derived.Test.YtboginbepgopeaaPFnWorstx1
import Derived.Test.YtboginbepgopeaaPFnWorstx2
import Derived.Test.YtboginbepgopeaaPFnWorstx3
import Derived.Test.YtboginbepgopeaaPFnWorstx4
import Derived.Test.YtboginbepgopeaaPFnWorstx5
namespace Go.Proofs.Ytboginbepgopeaa.PFnWorst
open Go.RowKit Go.Proofs.YtboginbepgopeaaW.PrintWords Go.Proofs.YtboginbepgopeaaW.PrintLast Go.Proofs.YtboginbepgopeaaW.PrintMore
attribute [local go_sem] max2_int min2_int max_two min_two max_three min_three max_four min_four   -- for this text's walks alone
set_option linter.unusedVariables false
set_option linter.unusedSimpArgs false

end Go.Proofs.Ytboginbepgopeaa.PFnWorst
