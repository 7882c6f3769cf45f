/- Printed by a program out of the translation, with contracts of my own set in. -/
import Derived.Test.YtboginbepgopeaaPFnExactCacheHoldsx0
import Derived.Test.YtboginbepgopeaaPFnExactCacheHoldsx1
import Derived.Test.YtboginbepgopeaaPFnExactCacheHoldsx2
import Derived.Test.YtboginbepgopeaaPFnExactCacheHoldsx3
import Derived.Test.YtboginbepgopeaaPFnExactCacheHoldsx4
import Derived.Test.YtboginbepgopeaaPFnExactCacheHoldsx5
import Derived.Test.YtboginbepgopeaaPFnExactCacheHoldsx6
import Derived.Test.YtboginbepgopeaaPFnExactCacheHoldsx7
import Derived.Test.YtboginbepgopeaaPFnExactCacheHoldsx8
namespace Go.Proofs.Ytboginbepgopeaa.PFnExactCacheHolds
open Go.RowKit Go.Proofs.YtboginbepgopeaaW.PrintWords Go.Proofs.YtboginbepgopeaaW.PrintLast Go.Proofs.YtboginbepgopeaaW.PrintMore
attribute [local go_sem] max2_int min2_int max_two min_two max_three min_three max_four min_four   -- for this text's walks alone
set_option linter.unusedVariables false
set_option linter.unusedSimpArgs false

end Go.Proofs.Ytboginbepgopeaa.PFnExactCacheHolds
