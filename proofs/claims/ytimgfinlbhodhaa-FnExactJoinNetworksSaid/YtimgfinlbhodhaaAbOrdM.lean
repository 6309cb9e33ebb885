/- Drawn regions of which one operation calls a function that writes its caller's memory, and the others that may come before it read alone. -/
import Derived.Test.YtimgfinlbhodhaaFwB
namespace Go.Proofs.Ytimgfinlbhodhaa.Ab
open Go
set_option linter.unusedVariables false
set_option linter.unusedSimpArgs false
section
variable {c : Cx} {k : List It} {st sF : St} {all : Array Oper} {om : Oper} {K : Kn} {R : List Nat} {m : Nat}
theorem upto_wp {P : Program} {o : Oper} {a : Act} {w : World} {J : Act → World → Prop} {Q : Exit → Act → World → Prop} (h : o.wp P a w J (Exit.then J Q)) : o.wp P a w J Q := by
 unfold Oper.wp at *
 generalize (execOp a.eval o).run P w = r at *
 cases r with
 | ok n w' =>
  cases n <;> simp only [Oper.upon] at h ⊢ <;>
   first
    | exact h
    | exact Calls.mono h (fun e w'' he => by cases e <;> exact he)
 | halt x w' => cases x <;> simp only [Oper.upon] at h ⊢ <;> exact h
section
variable {c : Cx} {k : List It} {st st' : St} {all : Array Oper} {K : Kn} {ts : List Nat} {n : Nat}
end
end
end Go.Proofs.Ytimgfinlbhodhaa.Ab
