/- Room for elements: the length of nil's memory, nil cut, nil grown by a number of zeros. -/
import Derived.Test.YtimgfinlbhodhaaFwB
namespace Go.Proofs.Ytimgfinlbhodhaa.Ab
open Go
set_option linter.unusedVariables false
set_option linter.unusedSimpArgs false
section
variable {c : Cx} {k : List It} {st st' : St} {all : Array Oper} {o : Oper} {l : List Oper}
end
end Go.Proofs.Ytimgfinlbhodhaa.Ab
