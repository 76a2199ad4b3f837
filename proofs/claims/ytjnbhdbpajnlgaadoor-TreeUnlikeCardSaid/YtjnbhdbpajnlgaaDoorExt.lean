/- All contracts of the tree seat that were proved by hand, together. -/
import Derived.Test.YtjnbhdbpajnlgaaDoorExtN
import Derived.Test.YtjnbhdbpajnlgaaDoorExtW
import Derived.Test.YtjnbhdbpajnlgaaDoorExtS1
namespace Go.Proofs.YtjnbhdbpajnlgaaDoor.Q
open Go.RowKit Go.Proofs.YtjnbhdbpajnlgaaDoorW.PrintWords Go.Proofs.YtjnbhdbpajnlgaaDoorW.PrintLast Go.Proofs.YtjnbhdbpajnlgaaDoorW.PrintMore
theorem LaidW.below {w w' : World} (h : LaidW w) (hb : Below w.heap.size w w') : LaidW w' := P.LaidW.below h hb
end Go.Proofs.YtjnbhdbpajnlgaaDoor.Q
