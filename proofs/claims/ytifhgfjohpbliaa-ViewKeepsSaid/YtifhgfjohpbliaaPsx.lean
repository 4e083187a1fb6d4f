-- Written by a program of this session's.
import Derived.Test.YtifhgfjohpbliaaPsx0
import Derived.Test.YtifhgfjohpbliaaPsx1
import Derived.Test.YtifhgfjohpbliaaPsx2
import Derived.Test.YtifhgfjohpbliaaPsx3
namespace Go.Proofs.Ytifhgfjohpbliaa.Ps
open Go.RowKit Go.Proofs.Ytifhgfjohpbliaa.Given Go.Proofs.Ytifhgfjohpbliaa.Codec Go.Proofs.YtifhgfjohpbliaaW.PrintWords Go.Proofs.YtifhgfjohpbliaaW.PrintLast Go.Proofs.YtifhgfjohpbliaaW.PrintMore
attribute [local go_sem] max2_int min2_int max_two min_two max_three min_three max_four min_four   -- for this text's walks alone
set_option linter.unusedVariables false
set_option linter.unusedSimpArgs false

end Go.Proofs.Ytifhgfjohpbliaa.Ps
