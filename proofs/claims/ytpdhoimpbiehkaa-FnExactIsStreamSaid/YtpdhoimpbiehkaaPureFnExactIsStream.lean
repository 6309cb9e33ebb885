/- The program's IsStream returns what the reference's returns. Every argument: no condition. -/
import Derived.Test.YtpdhoimpbiehkaaQLawsFnExactIsStream
import Derived.Test.YtpdhoimpbiehkaaHelp
namespace Go.Proofs.Ytpdhoimpbiehkaa.Pure
open Go.RowKit Go.Proofs.Ytpdhoimpbiehkaa.Q Go.Proofs.YtpdhoimpbiehkaaW.PrintWords Go.Proofs.YtpdhoimpbiehkaaW.PrintLast
set_option linter.unusedVariables false
set_option linter.unusedSimpArgs false
theorem FnExactIsStream_value (l0 : List Int) (hl0 : l0.length ≤ 1048576)  : ∃ (b0 : Bool), spec_IsStream_c.f l0 = some b0 ∧ impl_IsStream_c.f l0 = some b0 := by
  exact ⟨_, rfl, rfl⟩
theorem FnExactIsStream : laws_FnExactIsStream.Pure := by
  intro l0 ml0 nl0 wl0
  clear ml0 nl0
  unfold laws_FnExactIsStream.f
  by_cases hl0 : (l0.length : Int) > 1048576
  · rw [if_pos hl0]
  rw [if_neg hl0]
  replace hl0 : l0.length ≤ 1048576 := by omega
  obtain ⟨b0, hs, hi⟩ := FnExactIsStream_value l0 hl0 
  have tl0 := toI l0 (by omega)
  simp only [tl0, hs, hi, eqI, Option.bind_some, if_true, if_false, Bool.not_true, Bool.not_false, Bool.false_eq_true, bne_self_eq_false]
end Go.Proofs.Ytpdhoimpbiehkaa.Pure
