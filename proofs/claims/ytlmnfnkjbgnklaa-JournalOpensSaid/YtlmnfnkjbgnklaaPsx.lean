-- Written by a program of this session's.
import Derived.Test.YtlmnfnkjbgnklaaPsx0
import Derived.Test.YtlmnfnkjbgnklaaPsx1
import Derived.Test.YtlmnfnkjbgnklaaPsx2
import Derived.Test.YtlmnfnkjbgnklaaPsx3
namespace Go.Proofs.Ytlmnfnkjbgnklaa.Ps
open Go.RowKit Go.Proofs.Ytlmnfnkjbgnklaa.Given Go.Proofs.Ytlmnfnkjbgnklaa.Codec Go.Proofs.YtlmnfnkjbgnklaaW.PrintWords Go.Proofs.YtlmnfnkjbgnklaaW.PrintLast Go.Proofs.YtlmnfnkjbgnklaaW.PrintMore
attribute [local go_sem] max2_int min2_int max_two min_two max_three min_three max_four min_four   -- for this text's walks alone
set_option linter.unusedVariables false
set_option linter.unusedSimpArgs false

end Go.Proofs.Ytlmnfnkjbgnklaa.Ps
