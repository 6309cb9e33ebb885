/- The registers at first. -/
import Derived.Test.YticgaflgbljhlaaAbP3
import Derived.Test.YticgaflgbljhlaaFwB
namespace Go.Proofs.Yticgaflgbljhlaa.Ab
open Go
def regs0 (i o : Int) (l : List I4) : List Int := if progOk i o l = true then [0, 0, 0, 0] else []
theorem regs0_len (i o : Int) (l : List I4) : (regs0 i o l).length ≤ 4 := by unfold regs0; split <;> simp
end Go.Proofs.Yticgaflgbljhlaa.Ab
