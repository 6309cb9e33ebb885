-- Written by a program of this session (a turned print).
import Derived.Test.YtpdhoimpbiehkaaQx0
namespace Go.Proofs.Ytpdhoimpbiehkaa.Q
open Go.RowKit Go.Proofs.YtpdhoimpbiehkaaW.PrintWords Go.Proofs.YtpdhoimpbiehkaaW.PrintLast Go.Proofs.YtpdhoimpbiehkaaW.PrintMore
attribute [local go_sem] max2_int min2_int max_two min_two max_three min_three max_four min_four   -- for this text's walks alone
set_option linter.unusedVariables false
set_option linter.unusedSimpArgs false
set_option maxRecDepth 100000

/-! ### impl_WrapToken: function 32 -/
def impl_WrapToken.f (a0 : Int) : Option (Int) := if (Int.tmod a0 1999999) > 999999 then (some (wrap64 ((Int.tmod a0 1999999) - 1999999))) else (if (Int.tmod a0 1999999) < (-999999) then (some (wrap64 ((Int.tmod a0 1999999) + 1999999))) else (some (Int.tmod a0 1999999)))
set_option maxHeartbeats 8000000 in
set_option maxRecDepth 100000 in
theorem impl_WrapToken.calls (a0 : Int) (r : Int) (w : World) (h : impl_WrapToken.f a0 = some r) :
    Calls Try.prog 32 #[.int .i64 a0] w fun e w' => e = .returned (.int .i64 r) ∧ Drawn0 w w' := by
  have H : (if (Int.tmod a0 1999999) > 999999 then (some (wrap64 ((Int.tmod a0 1999999) - 1999999))) else (if (Int.tmod a0 1999999) < (-999999) then (some (wrap64 ((Int.tmod a0 1999999) + 1999999))) else (some (Int.tmod a0 1999999)))) = some r := h
  clear h
  by_cases c2 : (Int.tmod a0 1999999) > 999999
  · rw [if_pos c2] at H
    have c2b0 : decide (999999 < (Int.tmod a0 1999999)) = true := decide_eq_true c2
    clear c2
    obtain rfl := Option.some.inj H
    go_enter Try.func32, Try.ntmps32
    go_wp2
    go_ret
    exact ⟨by first | rfl | (simp; done) | (simp [*]; done), by repeat (first | exact Drawn0.refl _ | apply Drawn0.step)⟩
  · rw [if_neg c2] at H
    have c2b0 : decide (999999 < (Int.tmod a0 1999999)) = false := decide_eq_false c2
    clear c2
    by_cases c3 : (Int.tmod a0 1999999) < (-999999)
    · rw [if_pos c3] at H
      have c3b0 : decide ((Int.tmod a0 1999999) < (-999999)) = true := decide_eq_true c3
      clear c3
      obtain rfl := Option.some.inj H
      go_enter Try.func32, Try.ntmps32
      go_wp2
      go_ret
      exact ⟨by first | rfl | (simp; done) | (simp [*]; done), by repeat (first | exact Drawn0.refl _ | apply Drawn0.step)⟩
    · rw [if_neg c3] at H
      have c3b0 : decide ((Int.tmod a0 1999999) < (-999999)) = false := decide_eq_false c3
      clear c3
      obtain rfl := Option.some.inj H
      go_enter Try.func32, Try.ntmps32
      go_wp2
      go_ret
      exact ⟨by first | rfl | (simp; done) | (simp [*]; done), by repeat (first | exact Drawn0.refl _ | apply Drawn0.step)⟩

end Go.Proofs.Ytpdhoimpbiehkaa.Q
