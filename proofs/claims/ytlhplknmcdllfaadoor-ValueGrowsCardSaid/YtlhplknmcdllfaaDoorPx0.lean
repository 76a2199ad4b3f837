-- Printed by wip/pr/sprint.py (a session's program over the kit's print). Not trusted: Lean checks it.
import Derived.Test.YtlhplknmcdllfaaDoorProg
import Derived.Below
import Derived.Deep.Draws
import Derived.Deep.AppendLies
import Derived.Maps.AppendAt
import Derived.OwnWalk
import Derived.Laws.BytesArg
import Derived.Laws.MakeOwn
import Derived.Laws.OwnMore
import Derived.Deep.OwnRows
import Derived.Tactics
import Derived.Lib.ConvBytes
import Derived.Laws.Slices
import Derived.WalkKit
import Derived.KernelRfl
import Derived.RowKit3
import Derived.Deep.LoopGhost
import Derived.Deep.QuietTactic
import Derived.BigQuiet
import Derived.WideLaws
import Derived.Deep.DeepCutAuto
import Derived.Deep.CutBlock
import Derived.Deep.RegionHeld3
import Derived.Laws.Rows
import Derived.Lib.AppendStr
import Derived.ArgAppend
import Derived.Laws.IdiomCopy
import Derived.OrdersHeld
import Derived.Laws.BitsLemmas
import Derived.RowKit
import Derived.Test.YtlhplknmcdllfaaDoorWWords
import Derived.Test.YtlhplknmcdllfaaDoorWLast
import Derived.Test.YtlhplknmcdllfaaDoorWTab
import Derived.Test.YtlhplknmcdllfaaDoorWFour
import Derived.Test.YtlhplknmcdllfaaDoorWQPut
import Derived.Test.YtlhplknmcdllfaaDoorWApart
import Derived.Test.YtlhplknmcdllfaaDoorWArr
import Derived.Test.YtlhplknmcdllfaaDoorWZeros
import Derived.Test.YtlhplknmcdllfaaDoorWFoot
import Derived.Test.YtlhplknmcdllfaaDoorWKept
import Derived.Test.YtlhplknmcdllfaaDoorWShare
import Derived.Test.YtlhplknmcdllfaaDoorWN
import Derived.Test.YtlhplknmcdllfaaDoorWFootNe
import Derived.Test.YtlhplknmcdllfaaDoorWAt
import Derived.Test.YtlhplknmcdllfaaDoorWEqStruct
import Derived.Test.YtlhplknmcdllfaaDoorWRepsOne
import Derived.Test.YtlhplknmcdllfaaDoorWInv
import Derived.Test.YtlhplknmcdllfaaDoorWInvWords
import Derived.Test.YtlhplknmcdllfaaDoorWGuard
import Derived.Test.YtlhplknmcdllfaaDoorWNEv
import Derived.Test.YtlhplknmcdllfaaDoorWMore
namespace Go.Proofs.YtlhplknmcdllfaaDoor.P
open Go.RowKit Go.Proofs.YtlhplknmcdllfaaDoorW.PrintWords Go.Proofs.YtlhplknmcdllfaaDoorW.PrintLast Go.Proofs.YtlhplknmcdllfaaDoorW.PrintMore
attribute [local go_sem] max2_int min2_int max_two min_two max_three min_three max_four min_four   -- for this text's walks alone
set_option linter.unusedVariables false
set_option linter.unusedSimpArgs false



def errW : Option Int → Value
  | none => .nilIface
  | some c => .iface 0 (.int .i64 c)
theorem errW_none : errW none = .nilIface := rfl
theorem errW_some (c : Int) : errW (some c) = .iface 0 (.int .i64 c) := rfl

-- the values' own types

end Go.Proofs.YtlhplknmcdllfaaDoor.P
