-- Written by a program of this session's.
import Derived.Test.YtgolpihbkjadkaaPtx0
import Derived.Test.YtgolpihbkjadkaaPtx1
import Derived.Test.YtgolpihbkjadkaaPtx2
import Derived.Test.YtgolpihbkjadkaaPtx3
import Derived.Test.YtgolpihbkjadkaaPtx4
namespace Go.Proofs.Ytgolpihbkjadkaa.Pt
open Go.RowKit Go.Proofs.Ytgolpihbkjadkaa.Given Go.Proofs.Ytgolpihbkjadkaa.Codec Go.Proofs.YtgolpihbkjadkaaW.PrintWords Go.Proofs.YtgolpihbkjadkaaW.PrintLast Go.Proofs.YtgolpihbkjadkaaW.PrintMore
attribute [local go_sem] max2_int min2_int max_two min_two max_three min_three max_four min_four   -- for this text's walks alone
set_option linter.unusedVariables false
set_option linter.unusedSimpArgs false

end Go.Proofs.Ytgolpihbkjadkaa.Pt
