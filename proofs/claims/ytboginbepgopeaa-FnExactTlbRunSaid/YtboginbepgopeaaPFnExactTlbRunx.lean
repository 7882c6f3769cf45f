/- Printed by a program out of the translation, with contracts of my own set in. -/
import Derived.Test.YtboginbepgopeaaPFnExactTlbRunx0
import Derived.Test.YtboginbepgopeaaPFnExactTlbRunx1
import Derived.Test.YtboginbepgopeaaPFnExactTlbRunx2
import Derived.Test.YtboginbepgopeaaPFnExactTlbRunx3
import Derived.Test.YtboginbepgopeaaPFnExactTlbRunx4
import Derived.Test.YtboginbepgopeaaPFnExactTlbRunx5
namespace Go.Proofs.Ytboginbepgopeaa.PFnExactTlbRun
open Go.RowKit Go.Proofs.YtboginbepgopeaaW.PrintWords Go.Proofs.YtboginbepgopeaaW.PrintLast Go.Proofs.YtboginbepgopeaaW.PrintMore
attribute [local go_sem] max2_int min2_int max_two min_two max_three min_three max_four min_four   -- for this text's walks alone
set_option linter.unusedVariables false
set_option linter.unusedSimpArgs false

end Go.Proofs.Ytboginbepgopeaa.PFnExactTlbRun
