/- What is observed of least streams, what processes wait for. Plain definitions and lemmas. -/
import Derived.Test.YtdcjlemkegifjaaGreatFwGd
import Derived.Test.YtdcjlemkegifjaaGreatAbFreeze
namespace Go.Proofs.YtdcjlemkegifjaaGreat.Ab
open Go
set_option linter.unusedVariables false
set_option linter.unusedSimpArgs false
section
variable {ps : List PG} {ks : List LK}
end
section
variable {t t' : Nat → Bool} {H : List (List Int)}
end
section
variable {ps : List PG} {ks : List LK} {H : List (List Int)}
end
end Go.Proofs.YtdcjlemkegifjaaGreat.Ab
