/- The functions that the law reaches, as Lean functions, and that the code comes to their answers; written by wip/xprint.py (a program of this repository over the print of the kit): Lean checks it. -/
import Derived.Test.YtlcbdalgifjocaaPBx0
import Derived.Test.YtlcbdalgifjocaaPBx1
import Derived.Test.YtlcbdalgifjocaaPBx2
import Derived.Test.YtlcbdalgifjocaaPBx3
import Derived.Test.YtlcbdalgifjocaaPBx4
import Derived.Test.YtlcbdalgifjocaaPBx5
import Derived.Test.YtlcbdalgifjocaaPBx6
import Derived.Test.YtlcbdalgifjocaaPBx7
import Derived.Test.YtlcbdalgifjocaaPBx8
namespace Go.Proofs.Ytlcbdalgifjocaa.PB
open Go.RowKit Go.Proofs.YtlcbdalgifjocaaW.PrintWords Go.Proofs.YtlcbdalgifjocaaW.PrintLast Go.Proofs.YtlcbdalgifjocaaW.PrintMore
attribute [local go_sem] max2_int min2_int max_two min_two max_three min_three max_four min_four   -- for this text's walks alone
set_option linter.unusedVariables false
set_option linter.unusedSimpArgs false

end Go.Proofs.Ytlcbdalgifjocaa.PB
