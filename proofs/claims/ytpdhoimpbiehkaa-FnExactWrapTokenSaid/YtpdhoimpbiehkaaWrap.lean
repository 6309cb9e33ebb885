/- Both WrapTokens compute the token that differs by a multiple of 1999999. -/
import Derived.Test.YtpdhoimpbiehkaaQSpecWrapToken
import Derived.Test.YtpdhoimpbiehkaaQImplWrapToken
import Derived.Test.YtpdhoimpbiehkaaMath
namespace Go.Proofs.Ytpdhoimpbiehkaa.Q
open Go.RowKit Go.Proofs.YtpdhoimpbiehkaaW.PrintWords Go.Proofs.YtpdhoimpbiehkaaW.PrintLast
theorem wrap64_small {x : Int} (h1 : -9223372036854775808 ≤ x) (h2 : x ≤ 9223372036854775807) : wrap64 x = x := by
  unfold wrap64
  omega
theorem impl_WrapToken.eq (a : Int) : impl_WrapToken.f a = some (M.wrap a) := by
  have hb := M.tmod_cases a 1999999 (by omega)
  unfold impl_WrapToken.f M.wrap
  generalize Int.tmod a 1999999 = r at *
  have hr : -1999999 < r ∧ r < 1999999 := by omega
  split
  · rw [wrap64_small (by omega) (by omega)]; congr 1; omega
  · split
    · rw [wrap64_small (by omega) (by omega)]; congr 1; omega
    · congr 1; omega
theorem spec_WrapToken.eq (a : Int) : spec_WrapToken.f a = some (M.wrap a) := by
  rw [← impl_WrapToken.eq]
  have hb := M.tmod_cases a 1999999 (by omega)
  unfold spec_WrapToken.f impl_WrapToken.f
  generalize Int.tmod a 1999999 = r at *
  have hr : -1999999 < r ∧ r < 1999999 := by omega
  split
  · rw [wrap64_small (by omega) (by omega), if_neg (by omega)]
  · rfl
end Go.Proofs.Ytpdhoimpbiehkaa.Q
