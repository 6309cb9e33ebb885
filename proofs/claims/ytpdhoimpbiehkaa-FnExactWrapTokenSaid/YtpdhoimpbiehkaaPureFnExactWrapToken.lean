/- The program's WrapToken returns what the reference's returns, for every argument: no condition. -/
import Derived.Test.YtpdhoimpbiehkaaQLawsFnExactWrapToken
import Derived.Test.YtpdhoimpbiehkaaWrap
namespace Go.Proofs.Ytpdhoimpbiehkaa.Pure
open Go.RowKit Go.Proofs.Ytpdhoimpbiehkaa.Q Go.Proofs.YtpdhoimpbiehkaaW.PrintWords Go.Proofs.YtpdhoimpbiehkaaW.PrintLast
theorem FnExactWrapToken : laws_FnExactWrapToken.Pure := by
  intro a h
  unfold laws_FnExactWrapToken.f
  rw [spec_WrapToken.eq, impl_WrapToken.eq]
  simp
end Go.Proofs.Ytpdhoimpbiehkaa.Pure
