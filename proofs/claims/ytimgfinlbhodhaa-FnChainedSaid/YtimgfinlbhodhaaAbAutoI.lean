/- Functions of which only something is known about what they answer, with the lemmas that compute a step built in. -/
import Derived.Test.YtimgfinlbhodhaaFwGa
import Derived.Test.YtimgfinlbhodhaaAbEx
import Derived.Test.YtimgfinlbhodhaaAbOrdM
namespace Go.Proofs.Ytimgfinlbhodhaa.Ab
open Go
set_option linter.unusedVariables false
set_option linter.unusedSimpArgs false
section
variable {c : Cx} {k : List It} {st st' : St} {K : Kn}
end
end Go.Proofs.Ytimgfinlbhodhaa.Ab
