/- Orders: where an index is, step by step. Plain definitions and lemmas. -/
import Derived.Test.YtimgfinlbhodhaaFwGd
namespace Go.Proofs.Ytimgfinlbhodhaa.Ab
open Go
set_option linter.unusedVariables false
set_option linter.unusedSimpArgs false
section
variable {order : List Int} {n : Nat} {ks : List LK} {ps : List PG}
end
end Go.Proofs.Ytimgfinlbhodhaa.Ab
