-- Printed by wip/pr/sprint.py (a session's program over the kit's print). Not trusted: Lean checks it.
import Derived.Test.YtadpifnlkmeifaaDoorProg
import Derived.Below
import Derived.Deep.Draws
import Derived.Deep.AppendLies
import Derived.Maps.AppendAt
import Derived.OwnWalk
import Derived.Laws.BytesArg
import Derived.Laws.MakeOwn
import Derived.Laws.OwnMore
import Derived.Deep.OwnRows
import Derived.Tactics
import Derived.Lib.ConvBytes
import Derived.Laws.Slices
import Derived.WalkKit
import Derived.KernelRfl
import Derived.RowKit3
import Derived.Deep.LoopGhost
import Derived.Deep.QuietTactic
import Derived.BigQuiet
import Derived.WideLaws
import Derived.Deep.DeepCutAuto
import Derived.Deep.CutBlock
import Derived.Deep.RegionHeld3
import Derived.Laws.Rows
import Derived.Lib.AppendStr
import Derived.ArgAppend
import Derived.Laws.IdiomCopy
import Derived.OrdersHeld
import Derived.Laws.BitsLemmas
import Derived.RowKit
import Derived.Test.YtadpifnlkmeifaaDoorWWords
import Derived.Test.YtadpifnlkmeifaaDoorWLast
import Derived.Test.YtadpifnlkmeifaaDoorWTab
import Derived.Test.YtadpifnlkmeifaaDoorWFour
import Derived.Test.YtadpifnlkmeifaaDoorWQPut
import Derived.Test.YtadpifnlkmeifaaDoorWApart
import Derived.Test.YtadpifnlkmeifaaDoorWArr
import Derived.Test.YtadpifnlkmeifaaDoorWZeros
import Derived.Test.YtadpifnlkmeifaaDoorWFoot
import Derived.Test.YtadpifnlkmeifaaDoorWKept
import Derived.Test.YtadpifnlkmeifaaDoorWShare
import Derived.Test.YtadpifnlkmeifaaDoorWN
import Derived.Test.YtadpifnlkmeifaaDoorWFootNe
import Derived.Test.YtadpifnlkmeifaaDoorWAt
import Derived.Test.YtadpifnlkmeifaaDoorWEqStruct
import Derived.Test.YtadpifnlkmeifaaDoorWRepsOne
import Derived.Test.YtadpifnlkmeifaaDoorWInv
import Derived.Test.YtadpifnlkmeifaaDoorWInvWords
import Derived.Test.YtadpifnlkmeifaaDoorWGuard
import Derived.Test.YtadpifnlkmeifaaDoorWNEv
import Derived.Test.YtadpifnlkmeifaaDoorWMore
namespace Go.Proofs.YtadpifnlkmeifaaDoor.P
open Go.RowKit Go.Proofs.YtadpifnlkmeifaaDoorW.PrintWords Go.Proofs.YtadpifnlkmeifaaDoorW.PrintLast Go.Proofs.YtadpifnlkmeifaaDoorW.PrintMore
attribute [local go_sem] max2_int min2_int max_two min_two max_three min_three max_four min_four   -- for this text's walks alone
set_option linter.unusedVariables false
set_option linter.unusedSimpArgs false



def errW : Option Int → Value
  | none => .nilIface
  | some c => .iface 0 (.int .i64 c)
theorem errW_none : errW none = .nilIface := rfl
theorem errW_some (c : Int) : errW (some c) = .iface 0 (.int .i64 c) := rfl

-- the values' own types

end Go.Proofs.YtadpifnlkmeifaaDoor.P
