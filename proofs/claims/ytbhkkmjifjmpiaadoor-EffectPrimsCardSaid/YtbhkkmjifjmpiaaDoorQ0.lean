-- Made by a program of this session (turnprint.py), after the manner of the kit's print.
import Derived.Test.YtbhkkmjifjmpiaaDoorProg
import Derived.Below
import Derived.Deep.Draws
import Derived.Deep.AppendLies
import Derived.Maps.AppendAt
import Derived.OwnWalk
import Derived.Laws.BytesArg
import Derived.Laws.MakeOwn
import Derived.Laws.OwnMore
import Derived.Deep.OwnRows
import Derived.Tactics
import Derived.Lib.ConvBytes
import Derived.Laws.Slices
import Derived.WalkKit
import Derived.KernelRfl
import Derived.RowKit3
import Derived.Deep.LoopGhost
import Derived.Deep.QuietTactic
import Derived.BigQuiet
import Derived.WideLaws
import Derived.Deep.DeepCutAuto
import Derived.Deep.CutBlock
import Derived.Deep.RegionHeld3
import Derived.Laws.Rows
import Derived.Lib.AppendStr
import Derived.ArgAppend
import Derived.Laws.IdiomCopy
import Derived.OrdersHeld
import Derived.Laws.BitsLemmas
import Derived.RowKit
import Derived.Test.YtbhkkmjifjmpiaaDoorWWords
import Derived.Test.YtbhkkmjifjmpiaaDoorWLast
import Derived.Test.YtbhkkmjifjmpiaaDoorWTab
import Derived.Test.YtbhkkmjifjmpiaaDoorWFour
import Derived.Test.YtbhkkmjifjmpiaaDoorWQPut
import Derived.Test.YtbhkkmjifjmpiaaDoorWApart
import Derived.Test.YtbhkkmjifjmpiaaDoorWArr
import Derived.Test.YtbhkkmjifjmpiaaDoorWZeros
import Derived.Test.YtbhkkmjifjmpiaaDoorWFoot
import Derived.Test.YtbhkkmjifjmpiaaDoorWKept
import Derived.Test.YtbhkkmjifjmpiaaDoorWShare
import Derived.Test.YtbhkkmjifjmpiaaDoorWN
import Derived.Test.YtbhkkmjifjmpiaaDoorWFootNe
import Derived.Test.YtbhkkmjifjmpiaaDoorWAt
import Derived.Test.YtbhkkmjifjmpiaaDoorWEqStruct
import Derived.Test.YtbhkkmjifjmpiaaDoorWRepsOne
import Derived.Test.YtbhkkmjifjmpiaaDoorWInv
import Derived.Test.YtbhkkmjifjmpiaaDoorWInvWords
import Derived.Test.YtbhkkmjifjmpiaaDoorWGuard
import Derived.Test.YtbhkkmjifjmpiaaDoorWNEv
import Derived.Test.YtbhkkmjifjmpiaaDoorWMore
namespace Go.Proofs.YtbhkkmjifjmpiaaDoor.Q
open Go.RowKit Go.Proofs.YtbhkkmjifjmpiaaDoorW.PrintWords Go.Proofs.YtbhkkmjifjmpiaaDoorW.PrintLast Go.Proofs.YtbhkkmjifjmpiaaDoorW.PrintMore
attribute [local go_sem] max2_int min2_int max_two min_two max_three min_three max_four min_four   -- for this text's walks alone
set_option linter.unusedVariables false
set_option linter.unusedSimpArgs false



def errW : Option Int → Value
  | none => .nilIface
  | some c => .iface 0 (.int .i64 c)
theorem errW_none : errW none = .nilIface := rfl
theorem errW_some (c : Int) : errW (some c) = .iface 0 (.int .i64 c) := rfl

theorem info3 : (Tryd.prog.info? 3).map (fun i => (i.zero, i.size, i.bytes)) = some (some (.int .i64 0), 1, 8) := by kernel_rfl
-- the values' own types

end Go.Proofs.YtbhkkmjifjmpiaaDoor.Q
