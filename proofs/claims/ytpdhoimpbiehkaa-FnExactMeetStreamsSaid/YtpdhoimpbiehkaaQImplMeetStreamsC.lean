-- Written by a program of this session (a turned print).
import Derived.Test.YtpdhoimpbiehkaaQx0
import Derived.Test.YtpdhoimpbiehkaaQImplIsStreamC
import Derived.Test.YtpdhoimpbiehkaaQSlicesCloneSintInt
import Derived.Test.YtpdhoimpbiehkaaQImplMeetStreams
import Derived.Test.YtpdhoimpbiehkaaLem
import Derived.Test.YtpdhoimpbiehkaaMath
namespace Go.Proofs.Ytpdhoimpbiehkaa.Q
open Go.RowKit Go.Proofs.YtpdhoimpbiehkaaW.PrintWords Go.Proofs.YtpdhoimpbiehkaaW.PrintLast Go.Proofs.YtpdhoimpbiehkaaW.PrintMore
attribute [local go_sem] max2_int min2_int max_two min_two max_three min_three max_four min_four   -- for this text's walks alone
set_option linter.unusedVariables false
set_option linter.unusedSimpArgs false
set_option maxRecDepth 100000

/-! ### impl_MeetStreams_c: function 41 -/
--IMPORT Derived.Test.YtpdhoimpbiehkaaMath
--IMPORT Derived.Test.YtpdhoimpbiehkaaLem
theorem impl_MeetStreams.done (a : List Int) (hm : a.length ≤ 400) (i : Nat) (hi : i ≤ a.length) : (if 0 ≤ (i : Int) then (if (i : Int) ≤ (a.length : Int) then ((slices_Clone_Sint_int.f (a.take (i : Int).toNat)).bind fun t => some t) else none) else none) = some (a.take i) := by
  rw [if_pos (by omega), if_pos (by omega), Int.toNat_natCast, slices_Clone_Sint_int.f, if_pos (by simp; omega)]
  rfl
theorem impl_MeetStreams.loop (a b : List Int) (hm : a.length ≤ 400) (d : Nat) : ∀ (k i : Nat), i + d = a.length → d < k → impl_MeetStreams.l0 k a b (i : Int) = some (a.take i ++ M.meet (a.drop i) (b.drop i)) := by
  induction d with
  | zero =>
    intro k i hi hk
    obtain ⟨k, rfl⟩ := rounds_succ hk
    simp only [impl_MeetStreams.l0]
    rw [if_neg (by omega), impl_MeetStreams.done a hm i (by omega), show a.drop i = [] from List.drop_eq_nil_of_le (by omega), M.meet_nil_left, List.append_nil]
  | succ d ih =>
    intro k i hi hk
    obtain ⟨k, rfl⟩ := rounds_succ hk
    simp only [impl_MeetStreams.l0]
    rw [if_pos (by omega)]
    by_cases hb : i < b.length
    · rw [if_pos (by omega), if_pos (by omega)]
      by_cases he : rd a (i : Int) = rd b (i : Int)
      · rw [if_pos he, w64_succ i (by omega), ih k (i + 1) (by omega) (by omega), rd_drop (show i < a.length by omega), rd_drop hb]
        simp only [M.meet, if_pos he]
        rw [List.take_succ_eq_append_getElem (show i < a.length by omega), rd_eq (show i < a.length by omega)]
        simp only [List.append_assoc, List.singleton_append]
      · rw [if_neg he, rd_drop (show i < a.length by omega), rd_drop hb]
        simp only [M.meet, if_neg he, List.append_nil]
        have h := impl_MeetStreams.done a hm i (by omega)
        rw [if_pos (by omega)] at h
        exact h
    · rw [if_neg (by omega), impl_MeetStreams.done a hm i (by omega), show b.drop i = [] from List.drop_eq_nil_of_le (by omega), M.meet_nil_right, List.append_nil]
theorem impl_MeetStreams.eq (a b : List Int) : impl_MeetStreams.f 900 a b = some (if M.str a = true ∧ M.str b = true then M.meet a b else []) := by
  unfold impl_MeetStreams.f
  simp only [impl_IsStream_c.f, Option.bind_some, impl_MeetStreams.j0]
  by_cases ha : M.str a = true
  · by_cases hb : M.str b = true
    · rw [if_pos ha, if_neg (by simp [hb]), if_pos ⟨ha, hb⟩]
      simp only [M.str, Bool.and_eq_true, decide_eq_true_eq] at ha
      have h := impl_MeetStreams.loop a b ha.1 a.length 899 0 (by omega) (by omega)
      exact h
    · have hb' : M.str b = false := by simpa using hb
      simp [ha, hb']
  · have ha' : M.str a = false := by simpa using ha
    simp [ha']
def impl_MeetStreams_c.f (l0 : List Int) (l1 : List Int) : Option (List Int) := some (if M.str l0 = true ∧ M.str l1 = true then M.meet l0 l1 else [])


set_option maxHeartbeats 8000000 in
set_option maxRecDepth 100000 in
theorem impl_MeetStreams_c.calls (A0 : Option Addr) (c0 : Nat) (l0 : List Int) (A1 : Option Addr) (c1 : Nat) (l1 : List Int) (r : List Int) (w : World) (hr0 : Kd.C (Kd.int .i64) w A0 l0.length l0) (hc0 : l0.length ≤ c0) (hr1 : Kd.C (Kd.int .i64) w A1 l1.length l1) (hc1 : l1.length ≤ c1) (h : impl_MeetStreams_c.f l0 l1 = some r) :
    Calls Try.prog 41 #[.slice A0 l0.length c0, .slice A1 l1.length c1] w fun e w' => ∃ v0_ : Value, e = .returned (v0_) ∧ Kd.R (Kd.int .i64) 3 w' w.heap.size (fun _ => True) v0_ r ∧ Below w.heap.size w w' := by
  exact impl_MeetStreams.calls 900 A0 c0 l0 A1 c1 l1 r w hr0 hc0 hr1 hc1 (by rw [impl_MeetStreams.eq]; exact h)


end Go.Proofs.Ytpdhoimpbiehkaa.Q
