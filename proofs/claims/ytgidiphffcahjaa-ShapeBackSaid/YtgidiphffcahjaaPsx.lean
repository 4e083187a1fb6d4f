-- Written by a program of this session's.
import Derived.Test.YtgidiphffcahjaaPsx0
import Derived.Test.YtgidiphffcahjaaPsx1
import Derived.Test.YtgidiphffcahjaaPsx2
import Derived.Test.YtgidiphffcahjaaPsx3
namespace Go.Proofs.Ytgidiphffcahjaa.Ps
open Go.RowKit Go.Proofs.Ytgidiphffcahjaa.Given Go.Proofs.Ytgidiphffcahjaa.Codec Go.Proofs.YtgidiphffcahjaaW.PrintWords Go.Proofs.YtgidiphffcahjaaW.PrintLast Go.Proofs.YtgidiphffcahjaaW.PrintMore
attribute [local go_sem] max2_int min2_int max_two min_two max_three min_three max_four min_four   -- for this text's walks alone
set_option linter.unusedVariables false
set_option linter.unusedSimpArgs false

end Go.Proofs.Ytgidiphffcahjaa.Ps
