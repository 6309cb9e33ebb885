-- Written by a program of this session (a turned print).
import Derived.Test.YtpdhoimpbiehkaaQx0
import Derived.Test.YtpdhoimpbiehkaaQLawsHeldIntS
import Derived.Test.YtpdhoimpbiehkaaLem
import Derived.Test.YtpdhoimpbiehkaaMath
namespace Go.Proofs.Ytpdhoimpbiehkaa.Q
open Go.RowKit Go.Proofs.YtpdhoimpbiehkaaW.PrintWords Go.Proofs.YtpdhoimpbiehkaaW.PrintLast Go.Proofs.YtpdhoimpbiehkaaW.PrintMore
attribute [local go_sem] max2_int min2_int max_two min_two max_three min_three max_four min_four   -- for this text's walks alone
set_option linter.unusedVariables false
set_option linter.unusedSimpArgs false
set_option maxRecDepth 100000

/-! ### laws_heldIntS_c: function 43 -/
--IMPORT Derived.Test.YtpdhoimpbiehkaaMath
--IMPORT Derived.Test.YtpdhoimpbiehkaaLem
theorem laws_heldIntS.loop (l : List Int) (hm : l.length ≤ 4611686018427387904) (d : Nat) : ∀ (k i : Nat) (x : Int), i + d = l.length → d < k → 0 ≤ x → x + d ≤ 4611686018427387904 → laws_heldIntS.l0 k l x (i : Int) = some (if l.drop i == run x d then x + d else -1) := by
  induction d with
  | zero =>
    intro k i x hi hk h0 h1
    obtain ⟨k, rfl⟩ := rounds_succ hk
    simp only [laws_heldIntS.l0]
    rw [if_neg (by omega), show l.drop i = [] from List.drop_eq_nil_of_le (by omega)]
    simp [run]
  | succ d ih =>
    intro k i x hi hk h0 h1
    obtain ⟨k, rfl⟩ := rounds_succ hk
    simp only [laws_heldIntS.l0]
    rw [if_pos (by omega), if_pos (by omega), rd_drop (show i < l.length by omega)]
    simp only [run]
    by_cases h : rd l (i : Int) = x
    · rw [if_pos h, w64_succ i (by omega), w64 (by omega) (by omega), ih k (i + 1) (x + 1) (by omega) (by omega) (by omega) (by omega)]
      rw [h]
      simp only [List.cons_beq_cons, BEq.rfl, Bool.true_and]
      split <;> congr 1
      omega
    · rw [if_neg h]
      simp [h]
theorem laws_heldIntS.eq (l : List Int) (x : Int) (h0 : 0 ≤ x) (h1 : x + l.length ≤ 4611686018427387904) : laws_heldIntS.f (l.length + 1) l x = some (if l == run x l.length then x + l.length else -1) := by
  unfold laws_heldIntS.f
  have h := laws_heldIntS.loop l (by omega) l.length (l.length + 1) 0 x (by omega) (by omega) h0 h1
  exact h
def laws_heldIntS_c.f (l0 : List Int) (a1 : Int) : Option Int := if 0 ≤ a1 ∧ a1 + l0.length ≤ 4611686018427387904 then some (if l0 == run a1 l0.length then a1 + l0.length else -1) else none



set_option maxHeartbeats 8000000 in
set_option maxRecDepth 100000 in
theorem laws_heldIntS_c.calls (A0 : Option Addr) (c0 : Nat) (l0 : List Int) (a1 : Int) (r : Int) (w : World) (hr0 : Kd.C (Kd.int .i64) w A0 l0.length l0) (hc0 : l0.length ≤ c0) (h : laws_heldIntS_c.f l0 a1 = some r) :
    Calls Try.prog 43 #[.slice A0 l0.length c0, .int .i64 a1] w fun e w' => e = .returned (.int .i64 r) ∧ Drawn0 w w' := by
  have hl : 0 ≤ a1 ∧ a1 + l0.length ≤ 4611686018427387904 := by
    unfold laws_heldIntS_c.f at h
    split at h
    · assumption
    · cases h
  exact laws_heldIntS.calls (l0.length + 1) A0 c0 l0 a1 r w hr0 hc0 (by rw [laws_heldIntS.eq l0 a1 hl.1 hl.2]; rw [laws_heldIntS_c.f, if_pos hl] at h; exact h)


end Go.Proofs.Ytpdhoimpbiehkaa.Q
