/- Networks at work: the first process that can step. Plain definitions and lemmas. -/
import Derived.Test.YtimgfinlbhodhaaFwGd
namespace Go.Proofs.Ytimgfinlbhodhaa.Ab
open Go
set_option linter.unusedVariables false
set_option linter.unusedSimpArgs false
section
variable {ps : List PG} {ks : List LK} {xs : List AT} {qs hs : List (List Int)} {t : Int}
end
end Go.Proofs.Ytimgfinlbhodhaa.Ab
