-- Printed by wip/pr/sprint.py (a session's program over the kit's print). Not trusted: Lean checks it.
import Derived.Test.YtmfdkhnfjbgbhaaDoorProg
import Derived.Below
import Derived.Deep.Draws
import Derived.Deep.AppendLies
import Derived.Maps.AppendAt
import Derived.OwnWalk
import Derived.Laws.BytesArg
import Derived.Laws.MakeOwn
import Derived.Laws.OwnMore
import Derived.Deep.OwnRows
import Derived.Tactics
import Derived.Lib.ConvBytes
import Derived.Laws.Slices
import Derived.WalkKit
import Derived.KernelRfl
import Derived.RowKit3
import Derived.Deep.LoopGhost
import Derived.Deep.QuietTactic
import Derived.BigQuiet
import Derived.WideLaws
import Derived.Deep.DeepCutAuto
import Derived.Deep.CutBlock
import Derived.Deep.RegionHeld3
import Derived.Laws.Rows
import Derived.Lib.AppendStr
import Derived.ArgAppend
import Derived.Laws.IdiomCopy
import Derived.OrdersHeld
import Derived.Laws.BitsLemmas
import Derived.RowKit
import Derived.Test.YtmfdkhnfjbgbhaaDoorWWords
import Derived.Test.YtmfdkhnfjbgbhaaDoorWLast
import Derived.Test.YtmfdkhnfjbgbhaaDoorWTab
import Derived.Test.YtmfdkhnfjbgbhaaDoorWFour
import Derived.Test.YtmfdkhnfjbgbhaaDoorWQPut
import Derived.Test.YtmfdkhnfjbgbhaaDoorWApart
import Derived.Test.YtmfdkhnfjbgbhaaDoorWArr
import Derived.Test.YtmfdkhnfjbgbhaaDoorWZeros
import Derived.Test.YtmfdkhnfjbgbhaaDoorWFoot
import Derived.Test.YtmfdkhnfjbgbhaaDoorWKept
import Derived.Test.YtmfdkhnfjbgbhaaDoorWShare
import Derived.Test.YtmfdkhnfjbgbhaaDoorWN
import Derived.Test.YtmfdkhnfjbgbhaaDoorWFootNe
import Derived.Test.YtmfdkhnfjbgbhaaDoorWAt
import Derived.Test.YtmfdkhnfjbgbhaaDoorWEqStruct
import Derived.Test.YtmfdkhnfjbgbhaaDoorWRepsOne
import Derived.Test.YtmfdkhnfjbgbhaaDoorWInv
import Derived.Test.YtmfdkhnfjbgbhaaDoorWInvWords
import Derived.Test.YtmfdkhnfjbgbhaaDoorWGuard
import Derived.Test.YtmfdkhnfjbgbhaaDoorWNEv
import Derived.Test.YtmfdkhnfjbgbhaaDoorWMore
namespace Go.Proofs.YtmfdkhnfjbgbhaaDoor.Q
open Go.RowKit Go.Proofs.YtmfdkhnfjbgbhaaDoorW.PrintWords Go.Proofs.YtmfdkhnfjbgbhaaDoorW.PrintLast Go.Proofs.YtmfdkhnfjbgbhaaDoorW.PrintMore
attribute [local go_sem] max2_int min2_int max_two min_two max_three min_three max_four min_four   -- for this text's walks alone
set_option linter.unusedVariables false
set_option linter.unusedSimpArgs false



def errW : Option Int → Value
  | none => .nilIface
  | some c => .iface 0 (.int .i64 c)
theorem errW_none : errW none = .nilIface := rfl
theorem errW_some (c : Int) : errW (some c) = .iface 0 (.int .i64 c) := rfl

-- the values' own types
/-! #### struct type 27, nested in itself -/
structure S27 where
  f0 : Int
  f1 : Int
  f2 : ByteArray
  f3 : (List S27)
end Go.Proofs.YtmfdkhnfjbgbhaaDoor.Q
