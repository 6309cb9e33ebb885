/- The program's MeetStreams returns what the reference's returns. Every argument: no condition. -/
import Derived.Test.YtpdhoimpbiehkaaQLawsFnExactMeetStreams
import Derived.Test.YtpdhoimpbiehkaaHelp
namespace Go.Proofs.Ytpdhoimpbiehkaa.Pure
open Go.RowKit Go.Proofs.Ytpdhoimpbiehkaa.Q Go.Proofs.YtpdhoimpbiehkaaW.PrintWords Go.Proofs.YtpdhoimpbiehkaaW.PrintLast
set_option linter.unusedVariables false
set_option linter.unusedSimpArgs false
theorem FnExactMeetStreams_value (l0 : List Int) (l1 : List Int) (hl0 : l0.length ≤ 1048576) (hl1 : l1.length ≤ 1048576)  : ∃ (R0 : List Int), spec_MeetStreams_c.f l0 l1 = some R0 ∧ impl_MeetStreams_c.f l0 l1 = some R0 ∧ R0.length ≤ 2097152 := by
  refine ⟨_, rfl, rfl, ?_⟩
  split
  · have := M.meet_length l0 l1; omega
  · simp
theorem FnExactMeetStreams : laws_FnExactMeetStreams.Pure := by
  intro l0 l1 ml0 nl0 wl0 ml1 nl1 wl1
  clear ml0 nl0 ml1 nl1
  refine ⟨1, ?_⟩
  unfold laws_FnExactMeetStreams.f
  by_cases hl0 : (l0.length : Int) > 1048576
  · rw [if_pos hl0]
  rw [if_neg hl0]
  replace hl0 : l0.length ≤ 1048576 := by omega
  by_cases hl1 : (l1.length : Int) > 1048576
  · rw [if_pos hl1]
  rw [if_neg hl1]
  replace hl1 : l1.length ≤ 1048576 := by omega
  obtain ⟨R0, hs, hi, hR0⟩ := FnExactMeetStreams_value l0 l1 hl0 hl1 
  have tl0 := toI l0 (by omega)
  have tl1 := toI l1 (by omega)
  have kl0 := markI l0 (1) (by omega) (by omega)
  have kl1 := markI l1 (1 + (l0.length : Int)) (by omega) (by omega)
  have z0 : ¬ (1 + (l0.length : Int) + (l1.length : Int) < 0) := by omega
  have kR0 := markI R0 (1) (by omega) (by omega)
  have gR0 := heldI R0.length (1) (by omega) (by omega)
  have zR0 : ¬ (1 + (R0.length : Int) < 0) := by omega
  simp only [tl0, tl1, kl0, kl1, z0, kR0, gR0, zR0, hs, hi, eqI, Option.bind_some, if_true, if_false, Bool.not_true, Bool.not_false, Bool.false_eq_true, bne_self_eq_false, laws_FnExactMeetStreams.j0]
end Go.Proofs.Ytpdhoimpbiehkaa.Pure
