-- Written by a program of this session (a turned print).
import Derived.Test.YtpdhoimpbiehkaaQx0
import Derived.Test.YtpdhoimpbiehkaaQImplIsTokenC
import Derived.Test.YtpdhoimpbiehkaaQImplIsStream1
import Derived.Test.YtpdhoimpbiehkaaQSlicesIndexFuncSintInt
import Derived.Test.YtpdhoimpbiehkaaLem
import Derived.Test.YtpdhoimpbiehkaaMath
namespace Go.Proofs.Ytpdhoimpbiehkaa.Q
open Go.RowKit Go.Proofs.YtpdhoimpbiehkaaW.PrintWords Go.Proofs.YtpdhoimpbiehkaaW.PrintLast Go.Proofs.YtpdhoimpbiehkaaW.PrintMore
attribute [local go_sem] max2_int min2_int max_two min_two max_three min_three max_four min_four   -- for this text's walks alone
set_option linter.unusedVariables false
set_option linter.unusedSimpArgs false
set_option maxRecDepth 100000

/-! ### slices_IndexFunc_Sint_int_c: function 139 -/
--IMPORT Derived.Test.YtpdhoimpbiehkaaMath
--IMPORT Derived.Test.YtpdhoimpbiehkaaLem
theorem slices_IndexFunc_Sint_int.loop (l : List Int) (hm : l.length ≤ 9223372036854775807) (d : Nat) : ∀ (k i : Nat), i + d = l.length → d < k → slices_IndexFunc_Sint_int.l0 k l (l.length : Int) (i : Int) = some (if M.ix (fun x => !M.tok x) (l.drop i) < 0 then -1 else M.ix (fun x => !M.tok x) (l.drop i) + i) := by
  induction d with
  | zero =>
    intro k i hi hk
    obtain ⟨k, rfl⟩ := rounds_succ hk
    simp only [slices_IndexFunc_Sint_int.l0]
    rw [if_neg (by omega), show l.drop i = [] from List.drop_eq_nil_of_le (by omega)]
    simp [M.ix]
  | succ d ih =>
    intro k i hi hk
    obtain ⟨k, rfl⟩ := rounds_succ hk
    simp only [slices_IndexFunc_Sint_int.l0]
    rw [if_pos (by omega), if_pos (by omega), if_pos (by omega), rd_drop (show i < l.length by omega)]
    simp only [impl_IsStream_1.f, impl_isToken_c.f, Option.bind_some]
    have hx := M.ix_range (fun x => !M.tok x) (l.drop (i + 1))
    simp only [M.ix]
    by_cases ht : M.tok (rd l (i : Int)) = true
    · simp only [ht, Bool.not_true, Bool.false_eq_true, if_false]
      rw [w64_succ i (by omega), ih k (i + 1) (by omega) (by omega)]
      by_cases h0 : M.ix (fun x => !M.tok x) (l.drop (i + 1)) < 0
      · simp [h0]
      · rw [if_neg h0, if_neg h0, if_neg (by omega)]
        congr 1
        omega
    · have ht' : M.tok (rd l (i : Int)) = false := by simpa using ht
      simp [ht']
theorem slices_IndexFunc_Sint_int.eq (l : List Int) (hm : l.length ≤ 9223372036854775807) : slices_IndexFunc_Sint_int.f (l.length + 1) l = some (M.ix (fun x => !M.tok x) l) := by
  unfold slices_IndexFunc_Sint_int.f
  have h := slices_IndexFunc_Sint_int.loop l hm l.length (l.length + 1) 0 (by omega) (by omega)
  rw [show ((0 : Nat) : Int) = 0 from rfl] at h
  rw [h, List.drop_zero]
  have hx := M.ix_range (fun x => !M.tok x) l
  split
  · congr 1; omega
  · simp
def slices_IndexFunc_Sint_int_c.f (l0 : List Int) : Option Int := some (M.ix (fun x => !M.tok x) l0)



set_option maxHeartbeats 8000000 in
set_option maxRecDepth 100000 in
theorem slices_IndexFunc_Sint_int_c.calls (A0 : Option Addr) (c0 : Nat) (l0 : List Int) (r : Int) (w : World) (hr0 : Kd.C (Kd.int .i64) w A0 l0.length l0) (hc0 : l0.length ≤ c0) (h : slices_IndexFunc_Sint_int_c.f l0 = some r) :
    Calls Try.prog 139 #[.slice A0 l0.length c0, .func (.func 99) #[] #[]] w fun e w' => e = .returned (.int .i64 r) ∧ Drawn0 w w' := by
  exact slices_IndexFunc_Sint_int.calls (l0.length + 1) A0 c0 l0 r w hr0 hc0 (by rw [slices_IndexFunc_Sint_int.eq l0 hr0.2.1]; exact h)


end Go.Proofs.Ytpdhoimpbiehkaa.Q
