-- Made by a program of this session (turnprint.py), after the manner of the kit's print.
import Derived.Test.YtbhkkmjifjmpiaaDoorQ0
import Derived.Test.YtbhkkmjifjmpiaaDoorQ1
import Derived.Test.YtbhkkmjifjmpiaaDoorQ2
import Derived.Test.YtbhkkmjifjmpiaaDoorQ3
namespace Go.Proofs.YtbhkkmjifjmpiaaDoor.Q
open Go.RowKit Go.Proofs.YtbhkkmjifjmpiaaDoorW.PrintWords Go.Proofs.YtbhkkmjifjmpiaaDoorW.PrintLast Go.Proofs.YtbhkkmjifjmpiaaDoorW.PrintMore
attribute [local go_sem] max2_int min2_int max_two min_two max_three min_three max_four min_four   -- for this text's walks alone
set_option linter.unusedVariables false
set_option linter.unusedSimpArgs false

end Go.Proofs.YtbhkkmjifjmpiaaDoor.Q
