-- Printed by wip/pr/sprint.py (a session's program over the kit's print). Not trusted: Lean checks it.
import Derived.Test.YtglbgfjmfccemaaDoorQx0
import Derived.Test.YtglbgfjmfccemaaDoorQx1
import Derived.Test.YtglbgfjmfccemaaDoorQx2
import Derived.Test.YtglbgfjmfccemaaDoorQx3
import Derived.Test.YtglbgfjmfccemaaDoorQx4
import Derived.Test.YtglbgfjmfccemaaDoorQx5
import Derived.Test.YtglbgfjmfccemaaDoorQx6
import Derived.Test.YtglbgfjmfccemaaDoorQx7
import Derived.Test.YtglbgfjmfccemaaDoorQx8
namespace Go.Proofs.YtglbgfjmfccemaaDoor.Q
open Go.RowKit Go.Proofs.YtglbgfjmfccemaaDoorW.PrintWords Go.Proofs.YtglbgfjmfccemaaDoorW.PrintLast Go.Proofs.YtglbgfjmfccemaaDoorW.PrintMore
attribute [local go_sem] max2_int min2_int max_two min_two max_three min_three max_four min_four   -- for this text's walks alone
set_option linter.unusedVariables false
set_option linter.unusedSimpArgs false

end Go.Proofs.YtglbgfjmfccemaaDoor.Q
