/- Drawn regions of which one operation calls a function that writes its caller's memory, and the others that may come before it read alone. -/
import Derived.Test.YtimgfinlbhodhaaFwB
namespace Go.Proofs.Ytimgfinlbhodhaa.Ab
open Go
set_option linter.unusedVariables false
set_option linter.unusedSimpArgs false
section
variable {c : Cx} {k : List It} {st sF : St} {all : Array Oper} {om : Oper} {K : Kn} {R : List Nat} {m : Nat}
section
variable {c : Cx} {k : List It} {st st' : St} {all : Array Oper} {K : Kn} {ts : List Nat} {n : Nat}
end
end
end Go.Proofs.Ytimgfinlbhodhaa.Ab
