-- Printed by wip/tools/gprint.py (this session's program) out of the translation. Not trusted: Lean checks it.
import Derived.Test.YtokgckhhhhigiaaDoorProg
import Derived.Below
import Derived.Deep.Draws
import Derived.Deep.AppendLies
import Derived.Maps.AppendAt
import Derived.OwnWalk
import Derived.Laws.BytesArg
import Derived.Laws.MakeOwn
import Derived.Laws.OwnMore
import Derived.Deep.OwnRows
import Derived.Tactics
import Derived.Lib.ConvBytes
import Derived.Laws.Slices
import Derived.WalkKit
import Derived.KernelRfl
import Derived.RowKit3
import Derived.Deep.LoopGhost
import Derived.Deep.QuietTactic
import Derived.BigQuiet
import Derived.WideLaws
import Derived.Deep.DeepCutAuto
import Derived.Deep.CutBlock
import Derived.Deep.RegionHeld3
import Derived.Laws.Rows
import Derived.Lib.AppendStr
import Derived.ArgAppend
import Derived.Laws.IdiomCopy
import Derived.OrdersHeld
import Derived.Laws.BitsLemmas
import Derived.RowKit
import Derived.Test.YtokgckhhhhigiaaDoorCodeMQ
import Derived.Test.YtokgckhhhhigiaaDoorWWords
import Derived.Test.YtokgckhhhhigiaaDoorWLast
import Derived.Test.YtokgckhhhhigiaaDoorWTab
import Derived.Test.YtokgckhhhhigiaaDoorWFour
import Derived.Test.YtokgckhhhhigiaaDoorWQPut
import Derived.Test.YtokgckhhhhigiaaDoorWApart
import Derived.Test.YtokgckhhhhigiaaDoorWArr
import Derived.Test.YtokgckhhhhigiaaDoorWZeros
import Derived.Test.YtokgckhhhhigiaaDoorWFoot
import Derived.Test.YtokgckhhhhigiaaDoorWKept
import Derived.Test.YtokgckhhhhigiaaDoorWShare
import Derived.Test.YtokgckhhhhigiaaDoorWN
import Derived.Test.YtokgckhhhhigiaaDoorWFootNe
import Derived.Test.YtokgckhhhhigiaaDoorWAt
import Derived.Test.YtokgckhhhhigiaaDoorWEqStruct
import Derived.Test.YtokgckhhhhigiaaDoorWRepsOne
import Derived.Test.YtokgckhhhhigiaaDoorWInv
import Derived.Test.YtokgckhhhhigiaaDoorWInvWords
import Derived.Test.YtokgckhhhhigiaaDoorWGuard
import Derived.Test.YtokgckhhhhigiaaDoorWNEv
import Derived.Test.YtokgckhhhhigiaaDoorWMore
namespace Go.Proofs.YtokgckhhhhigiaaDoor.GZ
open Go.RowKit Go.Proofs.YtokgckhhhhigiaaDoor.Glob Go.Proofs.YtokgckhhhhigiaaDoor.M Go.Proofs.YtokgckhhhhigiaaDoor.CM Go.Proofs.YtokgckhhhhigiaaDoorW.PrintWords Go.Proofs.YtokgckhhhhigiaaDoorW.PrintLast Go.Proofs.YtokgckhhhhigiaaDoorW.PrintMore
attribute [local go_sem] max2_int min2_int max_two min_two max_three min_three max_four min_four   -- for this text's walks alone
set_option linter.unusedVariables false
set_option linter.unusedSimpArgs false



def errW : Option Int → Value
  | none => .nilIface
  | some c => .iface 0 (.int .i64 c)
theorem errW_none : errW none = .nilIface := rfl
theorem errW_some (c : Int) : errW (some c) = .iface 0 (.int .i64 c) := rfl

-- the values' own types

end Go.Proofs.YtokgckhhhhigiaaDoor.GZ
