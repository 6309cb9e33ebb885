/- The program's constants are those of the specification: no condition. -/
import Derived.Test.YtpdhoimpbiehkaaQLawsFnExactConstants
namespace Go.Proofs.Ytpdhoimpbiehkaa.Pure
open Go.RowKit Go.Proofs.Ytpdhoimpbiehkaa.Q Go.Proofs.YtpdhoimpbiehkaaW.PrintWords Go.Proofs.YtpdhoimpbiehkaaW.PrintLast
theorem FnExactConstants : laws_FnExactConstants.Pure := rfl
end Go.Proofs.Ytpdhoimpbiehkaa.Pure
