-- Written by a program of this session (a turned print).
import Derived.Test.YtpdhoimpbiehkaaQx0
import Derived.Test.YtpdhoimpbiehkaaQSpecL1TokenC
import Derived.Test.YtpdhoimpbiehkaaQSpecIsStream
import Derived.Test.YtpdhoimpbiehkaaLem
import Derived.Test.YtpdhoimpbiehkaaMath
namespace Go.Proofs.Ytpdhoimpbiehkaa.Q
open Go.RowKit Go.Proofs.YtpdhoimpbiehkaaW.PrintWords Go.Proofs.YtpdhoimpbiehkaaW.PrintLast Go.Proofs.YtpdhoimpbiehkaaW.PrintMore
attribute [local go_sem] max2_int min2_int max_two min_two max_three min_three max_four min_four   -- for this text's walks alone
set_option linter.unusedVariables false
set_option linter.unusedSimpArgs false
set_option maxRecDepth 100000

/-! ### spec_IsStream_c: function 34 -/
--IMPORT Derived.Test.YtpdhoimpbiehkaaMath
--IMPORT Derived.Test.YtpdhoimpbiehkaaLem
theorem spec_IsStream.loop (x0 l : List Int) (hm : l.length ≤ 9223372036854775807) (d : Nat) : ∀ (k i : Nat), i + d = l.length → d < k → spec_IsStream.l0 k x0 l (l.length : Int) (i : Int) = some (if (l.drop i).all M.tok = true then decide (x0.length ≤ 400) else false) := by
  induction d with
  | zero =>
    intro k i hi hk
    obtain ⟨k, rfl⟩ := rounds_succ hk
    simp only [spec_IsStream.l0]
    rw [if_neg (by omega), show l.drop i = [] from List.drop_eq_nil_of_le (by omega)]
    simp
    omega
  | succ d ih =>
    intro k i hi hk
    obtain ⟨k, rfl⟩ := rounds_succ hk
    simp only [spec_IsStream.l0]
    rw [if_pos (by omega), if_pos (by omega), if_pos (by omega), rd_drop (show i < l.length by omega)]
    simp only [spec_l1Token_c.f, Option.bind_some, List.all_cons]
    by_cases ht : M.tok (rd l (i : Int)) = true
    · simp only [ht, if_true, Bool.true_and]
      rw [w64_succ i (by omega), ih k (i + 1) (by omega) (by omega)]
    · have ht' : M.tok (rd l (i : Int)) = false := by simpa using ht
      simp [ht']
theorem spec_IsStream.eq (l : List Int) (hm : l.length ≤ 9223372036854775807) : spec_IsStream.f (l.length + 1) l = some (M.str l) := by
  unfold spec_IsStream.f
  have h := spec_IsStream.loop l l hm l.length (l.length + 1) 0 (by omega) (by omega)
  rw [show ((0 : Nat) : Int) = 0 from rfl] at h
  rw [h]
  simp only [List.drop_zero, M.str]
  cases l.all M.tok <;> simp
def spec_IsStream_c.f (l0 : List Int) : Option Bool := some (M.str l0)



set_option maxHeartbeats 8000000 in
set_option maxRecDepth 100000 in
theorem spec_IsStream_c.calls (A0 : Option Addr) (c0 : Nat) (l0 : List Int) (r : Bool) (w : World) (hr0 : Kd.C (Kd.int .i64) w A0 l0.length l0) (hc0 : l0.length ≤ c0) (h : spec_IsStream_c.f l0 = some r) :
    Calls Try.prog 34 #[.slice A0 l0.length c0] w fun e w' => e = .returned (.bool r) ∧ Drawn0 w w' := by
  exact spec_IsStream.calls (l0.length + 1) A0 c0 l0 r w hr0 hc0 (by rw [spec_IsStream.eq l0 hr0.2.1]; exact h)


end Go.Proofs.Ytpdhoimpbiehkaa.Q
