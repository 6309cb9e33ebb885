-- Written by a program of this session (a turned print).
import Derived.Test.YtpdhoimpbiehkaaQx0
import Derived.Test.YtpdhoimpbiehkaaQLawsToIntS
import Derived.Test.YtpdhoimpbiehkaaLem
import Derived.Test.YtpdhoimpbiehkaaMath
namespace Go.Proofs.Ytpdhoimpbiehkaa.Q
open Go.RowKit Go.Proofs.YtpdhoimpbiehkaaW.PrintWords Go.Proofs.YtpdhoimpbiehkaaW.PrintLast Go.Proofs.YtpdhoimpbiehkaaW.PrintMore
attribute [local go_sem] max2_int min2_int max_two min_two max_three min_three max_four min_four   -- for this text's walks alone
set_option linter.unusedVariables false
set_option linter.unusedSimpArgs false
set_option maxRecDepth 100000

/-! ### laws_toIntS_c: function 35 -/
--IMPORT Derived.Test.YtpdhoimpbiehkaaMath
--IMPORT Derived.Test.YtpdhoimpbiehkaaLem
theorem laws_toIntS.loop (l : List Int) (hm : l.length ≤ 9223372036854775807) (d : Nat) : ∀ (k i : Nat) (x : List Int), i + d = l.length → d < k → x.length = l.length → x.take i = l.take i → laws_toIntS.l0 k l x (i : Int) = some l := by
  induction d with
  | zero =>
    intro k i x hi hk hx ht
    obtain ⟨k, rfl⟩ := rounds_succ hk
    simp only [laws_toIntS.l0]
    rw [if_neg (by omega)]
    rw [List.take_of_length_le (by omega), List.take_of_length_le (by omega)] at ht
    rw [ht]
  | succ d ih =>
    intro k i x hi hk hx ht
    obtain ⟨k, rfl⟩ := rounds_succ hk
    simp only [laws_toIntS.l0]
    rw [if_pos (by omega), if_pos (by omega), if_pos (by omega), w64_succ i (by omega), Int.toNat_natCast]
    refine ih k (i + 1) _ (by omega) (by omega) (by simpa using hx) ?_
    rw [List.take_succ_eq_append_getElem (by simp; omega), List.take_succ_eq_append_getElem (by omega), List.take_set_of_le (by omega), ht, List.getElem_set_self, rd_eq (by omega)]
theorem laws_toIntS.eq (l : List Int) (hm : l.length ≤ 35184372088832) : laws_toIntS.f (l.length + 1) l = some l := by
  unfold laws_toIntS.f
  rw [if_pos (by omega), Int.toNat_natCast, if_pos hm]
  have h := laws_toIntS.loop l (by omega) l.length (l.length + 1) 0 (List.replicate l.length 0) (by omega) (by omega) (by simp) (by simp)
  exact h
def laws_toIntS_c.f (l0 : List Int) : Option (List Int) := if l0.length ≤ 35184372088832 then some l0 else none



set_option maxHeartbeats 8000000 in
set_option maxRecDepth 100000 in
theorem laws_toIntS_c.calls (A0 : Option Addr) (c0 : Nat) (l0 : List Int) (r : List Int) (w : World) (hr0 : Kd.C (Kd.int .i64) w A0 l0.length l0) (hc0 : l0.length ≤ c0) (h : laws_toIntS_c.f l0 = some r) :
    Calls Try.prog 35 #[.slice A0 l0.length c0] w fun e w' => ∃ v0_ : Value, e = .returned (v0_) ∧ Kd.R (Kd.int .i64) 3 w' w.heap.size (fun _ => True) v0_ r ∧ Below w.heap.size w w' := by
  have hl : l0.length ≤ 35184372088832 := by
    unfold laws_toIntS_c.f at h
    split at h
    · assumption
    · cases h
  exact laws_toIntS.calls (l0.length + 1) A0 c0 l0 r w hr0 hc0 (by rw [laws_toIntS.eq l0 hl]; rw [laws_toIntS_c.f, if_pos hl] at h; exact h)


end Go.Proofs.Ytpdhoimpbiehkaa.Q
