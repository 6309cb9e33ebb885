-- Written by a program of this session (a turned print).
import Derived.Test.YtpdhoimpbiehkaaQx0
import Derived.Test.YtpdhoimpbiehkaaQImplIsToken
import Derived.Test.YtpdhoimpbiehkaaLem
import Derived.Test.YtpdhoimpbiehkaaMath
namespace Go.Proofs.Ytpdhoimpbiehkaa.Q
open Go.RowKit Go.Proofs.YtpdhoimpbiehkaaW.PrintWords Go.Proofs.YtpdhoimpbiehkaaW.PrintLast Go.Proofs.YtpdhoimpbiehkaaW.PrintMore
attribute [local go_sem] max2_int min2_int max_two min_two max_three min_three max_four min_four   -- for this text's walks alone
set_option linter.unusedVariables false
set_option linter.unusedSimpArgs false
set_option maxRecDepth 100000

/-! ### impl_isToken_c: function 100 -/
--IMPORT Derived.Test.YtpdhoimpbiehkaaMath
--IMPORT Derived.Test.YtpdhoimpbiehkaaLem
theorem impl_isToken.eq (a : Int) : impl_isToken.f a = some (M.tok a) := by
  unfold impl_isToken.f M.tok
  split
  · simp [show -999999 ≤ a by omega]
  · simp [show ¬ -999999 ≤ a by omega]
def impl_isToken_c.f (a0 : Int) : Option Bool := some (M.tok a0)



set_option maxHeartbeats 8000000 in
set_option maxRecDepth 100000 in
theorem impl_isToken_c.calls (a0 : Int) (r : Bool) (w : World) (h : impl_isToken_c.f a0 = some r) :
    Calls Try.prog 100 #[.int .i64 a0] w fun e w' => e = .returned (.bool r) ∧ Drawn0 w w' := by
  exact impl_isToken.calls a0 r w (by rw [impl_isToken.eq]; exact h)


end Go.Proofs.Ytpdhoimpbiehkaa.Q
