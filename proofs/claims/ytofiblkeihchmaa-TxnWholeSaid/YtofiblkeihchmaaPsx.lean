-- Written by a program of this session's.
import Derived.Test.YtofiblkeihchmaaPsx0
import Derived.Test.YtofiblkeihchmaaPsx1
import Derived.Test.YtofiblkeihchmaaPsx2
namespace Go.Proofs.Ytofiblkeihchmaa.Ps
open Go.RowKit Go.Proofs.Ytofiblkeihchmaa.Given Go.Proofs.Ytofiblkeihchmaa.Codec Go.Proofs.YtofiblkeihchmaaW.PrintWords Go.Proofs.YtofiblkeihchmaaW.PrintLast Go.Proofs.YtofiblkeihchmaaW.PrintMore
attribute [local go_sem] max2_int min2_int max_two min_two max_three min_three max_four min_four   -- for this text's walks alone
set_option linter.unusedVariables false
set_option linter.unusedSimpArgs false

end Go.Proofs.Ytofiblkeihchmaa.Ps
