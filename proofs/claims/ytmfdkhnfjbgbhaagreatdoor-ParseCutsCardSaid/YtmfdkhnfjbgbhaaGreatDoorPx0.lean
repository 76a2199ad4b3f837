-- Printed by wip/pr/sprint.py (a session's program over the kit's print). Not trusted: Lean checks it.
import Derived.Test.YtmfdkhnfjbgbhaaGreatDoorProg
import Derived.Below
import Derived.Deep.Draws
import Derived.Deep.AppendLies
import Derived.Maps.AppendAt
import Derived.OwnWalk
import Derived.Laws.BytesArg
import Derived.Laws.MakeOwn
import Derived.Laws.OwnMore
import Derived.Deep.OwnRows
import Derived.Tactics
import Derived.Lib.ConvBytes
import Derived.Laws.Slices
import Derived.WalkKit
import Derived.KernelRfl
import Derived.RowKit3
import Derived.Deep.LoopGhost
import Derived.Deep.QuietTactic
import Derived.BigQuiet
import Derived.WideLaws
import Derived.Deep.DeepCutAuto
import Derived.Deep.CutBlock
import Derived.Deep.RegionHeld3
import Derived.Laws.Rows
import Derived.Lib.AppendStr
import Derived.ArgAppend
import Derived.Laws.IdiomCopy
import Derived.OrdersHeld
import Derived.Laws.BitsLemmas
import Derived.RowKit
import Derived.Test.YtmfdkhnfjbgbhaaGreatDoorWWords
import Derived.Test.YtmfdkhnfjbgbhaaGreatDoorWLast
import Derived.Test.YtmfdkhnfjbgbhaaGreatDoorWTab
import Derived.Test.YtmfdkhnfjbgbhaaGreatDoorWFour
import Derived.Test.YtmfdkhnfjbgbhaaGreatDoorWQPut
import Derived.Test.YtmfdkhnfjbgbhaaGreatDoorWApart
import Derived.Test.YtmfdkhnfjbgbhaaGreatDoorWArr
import Derived.Test.YtmfdkhnfjbgbhaaGreatDoorWZeros
import Derived.Test.YtmfdkhnfjbgbhaaGreatDoorWFoot
import Derived.Test.YtmfdkhnfjbgbhaaGreatDoorWKept
import Derived.Test.YtmfdkhnfjbgbhaaGreatDoorWShare
import Derived.Test.YtmfdkhnfjbgbhaaGreatDoorWN
import Derived.Test.YtmfdkhnfjbgbhaaGreatDoorWFootNe
import Derived.Test.YtmfdkhnfjbgbhaaGreatDoorWAt
import Derived.Test.YtmfdkhnfjbgbhaaGreatDoorWEqStruct
import Derived.Test.YtmfdkhnfjbgbhaaGreatDoorWRepsOne
import Derived.Test.YtmfdkhnfjbgbhaaGreatDoorWInv
import Derived.Test.YtmfdkhnfjbgbhaaGreatDoorWInvWords
import Derived.Test.YtmfdkhnfjbgbhaaGreatDoorWGuard
import Derived.Test.YtmfdkhnfjbgbhaaGreatDoorWNEv
import Derived.Test.YtmfdkhnfjbgbhaaGreatDoorWMore
namespace Go.Proofs.YtmfdkhnfjbgbhaaGreatDoor.P
open Go.RowKit Go.Proofs.YtmfdkhnfjbgbhaaGreatDoorW.PrintWords Go.Proofs.YtmfdkhnfjbgbhaaGreatDoorW.PrintLast Go.Proofs.YtmfdkhnfjbgbhaaGreatDoorW.PrintMore
attribute [local go_sem] max2_int min2_int max_two min_two max_three min_three max_four min_four   -- for this text's walks alone
set_option linter.unusedVariables false
set_option linter.unusedSimpArgs false



def errW : Option Int → Value
  | none => .nilIface
  | some c => .iface 0 (.int .i64 c)
theorem errW_none : errW none = .nilIface := rfl
theorem errW_some (c : Int) : errW (some c) = .iface 0 (.int .i64 c) := rfl

-- the values' own types

end Go.Proofs.YtmfdkhnfjbgbhaaGreatDoor.P
