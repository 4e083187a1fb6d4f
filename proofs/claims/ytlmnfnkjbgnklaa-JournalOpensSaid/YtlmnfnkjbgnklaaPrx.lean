-- Written by a program of this session's.
import Derived.Test.YtlmnfnkjbgnklaaPrx0
import Derived.Test.YtlmnfnkjbgnklaaPrx1
namespace Go.Proofs.Ytlmnfnkjbgnklaa.Pr
open Go.RowKit Go.Proofs.YtlmnfnkjbgnklaaW.PrintWords Go.Proofs.YtlmnfnkjbgnklaaW.PrintLast Go.Proofs.YtlmnfnkjbgnklaaW.PrintMore
attribute [local go_sem] max2_int min2_int max_two min_two max_three min_three max_four min_four   -- for this text's walks alone
set_option linter.unusedVariables false
set_option linter.unusedSimpArgs false

end Go.Proofs.Ytlmnfnkjbgnklaa.Pr
