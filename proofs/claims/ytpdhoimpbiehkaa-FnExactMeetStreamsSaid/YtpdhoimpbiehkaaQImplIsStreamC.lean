-- Written by a program of this session (a turned print).
import Derived.Test.YtpdhoimpbiehkaaQx0
import Derived.Test.YtpdhoimpbiehkaaQSlicesIndexFuncSintIntC
import Derived.Test.YtpdhoimpbiehkaaQSlicesContainsFuncSintInt
import Derived.Test.YtpdhoimpbiehkaaQImplIsStream
import Derived.Test.YtpdhoimpbiehkaaLem
import Derived.Test.YtpdhoimpbiehkaaMath
namespace Go.Proofs.Ytpdhoimpbiehkaa.Q
open Go.RowKit Go.Proofs.YtpdhoimpbiehkaaW.PrintWords Go.Proofs.YtpdhoimpbiehkaaW.PrintLast Go.Proofs.YtpdhoimpbiehkaaW.PrintMore
attribute [local go_sem] max2_int min2_int max_two min_two max_three min_three max_four min_four   -- for this text's walks alone
set_option linter.unusedVariables false
set_option linter.unusedSimpArgs false
set_option maxRecDepth 100000

/-! ### impl_IsStream_c: function 36 -/
--IMPORT Derived.Test.YtpdhoimpbiehkaaMath
--IMPORT Derived.Test.YtpdhoimpbiehkaaLem
theorem impl_IsStream.eq (l : List Int) : impl_IsStream.f l = some (M.str l) := by
  unfold impl_IsStream.f slices_ContainsFunc_Sint_int.f slices_IndexFunc_Sint_int_c.f
  have hx := M.ix_range (fun x => !M.tok x) l
  by_cases h : l.length ≤ 400
  · rw [if_pos (by omega), M.str_any l h]
    simp only [Option.bind_some]
    cases ha : l.any (fun x => !M.tok x) with
    | true =>
      have h1 : ¬ M.ix (fun x => !M.tok x) l < 0 := fun h2 => by rw [M.ix_neg, ha] at h2; cases h2
      simp [show M.ix (fun x => !M.tok x) l ≥ 0 by omega]
    | false =>
      have h1 := (M.ix_neg (fun x => !M.tok x) l).2 ha
      simp [show ¬ M.ix (fun x => !M.tok x) l ≥ 0 by omega]
  · rw [if_neg (by omega), M.str_long l h]
def impl_IsStream_c.f (l0 : List Int) : Option Bool := some (M.str l0)



set_option maxHeartbeats 8000000 in
set_option maxRecDepth 100000 in
theorem impl_IsStream_c.calls (A0 : Option Addr) (c0 : Nat) (l0 : List Int) (r : Bool) (w : World) (hr0 : Kd.C (Kd.int .i64) w A0 l0.length l0) (hc0 : l0.length ≤ c0) (h : impl_IsStream_c.f l0 = some r) :
    Calls Try.prog 36 #[.slice A0 l0.length c0] w fun e w' => e = .returned (.bool r) ∧ Drawn0 w w' := by
  exact impl_IsStream.calls A0 c0 l0 r w hr0 hc0 (by rw [impl_IsStream.eq l0]; exact h)


end Go.Proofs.Ytpdhoimpbiehkaa.Q
