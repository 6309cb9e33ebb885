/- A process that is stepped by hand: plain law. -/
import Derived.Test.YtimgfinlbhodhaaAbGen2
import Derived.Test.YtimgfinlbhodhaaAbMono2
import Derived.Test.YtimgfinlbhodhaaAbByt
namespace Go.Proofs.Ytimgfinlbhodhaa.Ab
open Go
set_option linter.unusedVariables false
set_option linter.unusedSimpArgs false
section
variable {i o : Int} {l : List I4} {ins less : List (List Int)} {s : PS}
end
end Go.Proofs.Ytimgfinlbhodhaa.Ab
