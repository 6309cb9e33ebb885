/- Rows of bytes in a function's own memory. -/
import Derived.Test.YtimgfinlbhodhaaAbCur
namespace Go.Proofs.Ytimgfinlbhodhaa.Ab
open Go
set_option linter.unusedVariables false
set_option linter.unusedSimpArgs false
end Go.Proofs.Ytimgfinlbhodhaa.Ab
