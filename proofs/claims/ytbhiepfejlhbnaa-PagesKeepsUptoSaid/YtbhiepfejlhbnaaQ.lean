-- Made by a program of this session (turnprint.py), after the manner of the kit's print.
import Derived.Test.YtbhiepfejlhbnaaQ0
import Derived.Test.YtbhiepfejlhbnaaQ1
import Derived.Test.YtbhiepfejlhbnaaQ2
import Derived.Test.YtbhiepfejlhbnaaQ3
import Derived.Test.YtbhiepfejlhbnaaQ4
import Derived.Test.YtbhiepfejlhbnaaQ5
namespace Go.Proofs.Ytbhiepfejlhbnaa.Q
open Go.RowKit Go.Proofs.YtbhiepfejlhbnaaW.PrintWords Go.Proofs.YtbhiepfejlhbnaaW.PrintLast Go.Proofs.YtbhiepfejlhbnaaW.PrintMore
attribute [local go_sem] max2_int min2_int max_two min_two max_three min_three max_four min_four   -- for this text's walks alone
set_option linter.unusedVariables false
set_option linter.unusedSimpArgs false

end Go.Proofs.Ytbhiepfejlhbnaa.Q
