-- Written by a program of this session (a turned print).
import Derived.Test.YtpdhoimpbiehkaaQx0
import Derived.Test.YtpdhoimpbiehkaaQLawsMarkIntS
import Derived.Test.YtpdhoimpbiehkaaLem
import Derived.Test.YtpdhoimpbiehkaaMath
namespace Go.Proofs.Ytpdhoimpbiehkaa.Q
open Go.RowKit Go.Proofs.YtpdhoimpbiehkaaW.PrintWords Go.Proofs.YtpdhoimpbiehkaaW.PrintLast Go.Proofs.YtpdhoimpbiehkaaW.PrintMore
attribute [local go_sem] max2_int min2_int max_two min_two max_three min_three max_four min_four   -- for this text's walks alone
set_option linter.unusedVariables false
set_option linter.unusedSimpArgs false
set_option maxRecDepth 100000

/-! ### laws_markIntS_c: function 42 -/
--IMPORT Derived.Test.YtpdhoimpbiehkaaMath
--IMPORT Derived.Test.YtpdhoimpbiehkaaLem
theorem laws_markIntS.loop (d : Nat) : ∀ (k i : Nat) (l : List Int) (x : Int), l.length ≤ 4611686018427387904 → i + d = l.length → d < k → 0 ≤ x → x + d ≤ 4611686018427387904 → laws_markIntS.l0 k l x (i : Int) = some (x + d, l.take i ++ run x d) := by
  induction d with
  | zero =>
    intro k i l x hm hi hk h0 h1
    obtain ⟨k, rfl⟩ := rounds_succ hk
    simp only [laws_markIntS.l0]
    rw [if_neg (by omega), List.take_of_length_le (by omega)]
    simp [run]
  | succ d ih =>
    intro k i l x hm hi hk h0 h1
    obtain ⟨k, rfl⟩ := rounds_succ hk
    simp only [laws_markIntS.l0]
    rw [if_pos (by omega), if_pos (by omega), w64_succ i (by omega), w64 (x := x + 1) (by omega) (by omega), Int.toNat_natCast, ih k (i + 1) _ (x + 1) (by simpa using hm) (by simp; omega) (by omega) (by omega) (by omega)]
    rw [List.take_succ_eq_append_getElem (by simp; omega), List.take_set_of_le (by omega), List.getElem_set_self]
    simp only [run, List.append_assoc, List.singleton_append, Option.some.injEq, Prod.mk.injEq, and_true]
    omega
theorem laws_markIntS.eq (l : List Int) (x : Int) (h0 : 0 ≤ x) (h1 : x + l.length ≤ 4611686018427387904) : laws_markIntS.f (l.length + 1) l x = some (x + l.length, run x l.length) := by
  unfold laws_markIntS.f
  have h := laws_markIntS.loop l.length (l.length + 1) 0 l x (by omega) (by omega) (by omega) h0 h1
  exact h
def laws_markIntS_c.f (l0 : List Int) (a1 : Int) : Option (Int × List Int) := if 0 ≤ a1 ∧ a1 + l0.length ≤ 4611686018427387904 then some (a1 + l0.length, run a1 l0.length) else none


set_option maxHeartbeats 8000000 in
set_option maxRecDepth 100000 in
theorem laws_markIntS_c.calls (P0_ : Nat → Prop) (u9000_ : Value) (l0 : List Int) (a1 : Int) (r1 : Int) (r2 : List Int) (w0 w : World) (hB : Below w0.heap.size w0 w) (ho0 : Kd.R (Kd.int .i64) 3 w w0.heap.size P0_ u9000_ l0) (h : laws_markIntS_c.f l0 a1 = some (r1, r2)) :
    Calls Try.prog 42 #[u9000_, .int .i64 a1] w fun e w' => e = .returned (.int .i64 r1) ∧ Kd.R (Kd.int .i64) 3 w' w0.heap.size (fun k_ => (P0_ k_ ∨ w.heap.size ≤ k_)) u9000_ r2 ∧ Below w0.heap.size w0 w' ∧ Kept w w' (fun k_ => P0_ k_) := by
  have hl : 0 ≤ a1 ∧ a1 + l0.length ≤ 4611686018427387904 := by
    unfold laws_markIntS_c.f at h
    split at h
    · assumption
    · cases h
  exact laws_markIntS.calls (l0.length + 1) P0_ u9000_ l0 a1 r1 r2 w0 w hB ho0 (by rw [laws_markIntS.eq l0 a1 hl.1 hl.2]; rw [laws_markIntS_c.f, if_pos hl] at h; exact h)


end Go.Proofs.Ytpdhoimpbiehkaa.Q
