/- Printed by a program out of the translation, with contracts of my own set in. -/
import Derived.Test.YtboginbepgopeaaPFnExactCacheFlushx0
import Derived.Test.YtboginbepgopeaaPFnExactCacheFlushx1
import Derived.Test.YtboginbepgopeaaPFnExactCacheFlushx2
import Derived.Test.YtboginbepgopeaaPFnExactCacheFlushx3
import Derived.Test.YtboginbepgopeaaPFnExactCacheFlushx4
import Derived.Test.YtboginbepgopeaaPFnExactCacheFlushx5
import Derived.Test.YtboginbepgopeaaPFnExactCacheFlushx6
import Derived.Test.YtboginbepgopeaaPFnExactCacheFlushx7
namespace Go.Proofs.Ytboginbepgopeaa.PFnExactCacheFlush
open Go.RowKit Go.Proofs.YtboginbepgopeaaW.PrintWords Go.Proofs.YtboginbepgopeaaW.PrintLast Go.Proofs.YtboginbepgopeaaW.PrintMore
attribute [local go_sem] max2_int min2_int max_two min_two max_three min_three max_four min_four   -- for this text's walks alone
set_option linter.unusedVariables false
set_option linter.unusedSimpArgs false

end Go.Proofs.Ytboginbepgopeaa.PFnExactCacheFlush
