/- Walks of functions of the program: what each answers, for all arguments that meet its conditions. -/
import Derived.Test.YtimgfinlbhodhaaAbReach2
import Derived.Test.YtimgfinlbhodhaaAbWA
import Derived.Test.YtimgfinlbhodhaaFwGg
import Derived.Test.YtimgfinlbhodhaaFwGe
import Derived.Test.YtimgfinlbhodhaaFwB
import Derived.Test.YtimgfinlbhodhaaFwGa
namespace Go.Proofs.Ytimgfinlbhodhaa.Ab
open Go
set_option linter.unusedVariables false
set_option linter.unusedSimpArgs false
set_option maxHeartbeats 4000000
-- not in this seat: l3Reached
end Go.Proofs.Ytimgfinlbhodhaa.Ab
