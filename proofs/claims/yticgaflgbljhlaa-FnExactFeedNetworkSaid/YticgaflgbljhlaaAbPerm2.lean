/- Orders: where an index is, step by step. Plain definitions and lemmas. -/
import Derived.Test.YticgaflgbljhlaaFwGd
namespace Go.Proofs.Yticgaflgbljhlaa.Ab
open Go
set_option linter.unusedVariables false
set_option linter.unusedSimpArgs false
section
variable {order : List Int} {n : Nat} {ks : List LK} {ps : List PG}
end
end Go.Proofs.Yticgaflgbljhlaa.Ab
