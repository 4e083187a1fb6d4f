-- Written by a program of this session's.
import Derived.Test.YtgolpihbkjadkaaPsx0
import Derived.Test.YtgolpihbkjadkaaPsx1
import Derived.Test.YtgolpihbkjadkaaPsx2
import Derived.Test.YtgolpihbkjadkaaPsx3
namespace Go.Proofs.Ytgolpihbkjadkaa.Ps
open Go.RowKit Go.Proofs.Ytgolpihbkjadkaa.Given Go.Proofs.Ytgolpihbkjadkaa.Codec Go.Proofs.YtgolpihbkjadkaaW.PrintWords Go.Proofs.YtgolpihbkjadkaaW.PrintLast Go.Proofs.YtgolpihbkjadkaaW.PrintMore
attribute [local go_sem] max2_int min2_int max_two min_two max_three min_three max_four min_four   -- for this text's walks alone
set_option linter.unusedVariables false
set_option linter.unusedSimpArgs false

end Go.Proofs.Ytgolpihbkjadkaa.Ps
