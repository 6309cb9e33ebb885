/- What the laws' helpers answer on lists of numbers. -/
import Derived.Test.YtpdhoimpbiehkaaQLawsToIntSC
import Derived.Test.YtpdhoimpbiehkaaQLawsEqIntSC
import Derived.Test.YtpdhoimpbiehkaaQLawsMarkIntSC
import Derived.Test.YtpdhoimpbiehkaaQLawsHeldIntSC
namespace Go.Proofs.Ytpdhoimpbiehkaa.Q
open Go.RowKit Go.Proofs.YtpdhoimpbiehkaaW.PrintWords
theorem toI (l : List Int) (h : l.length ≤ 35184372088832) : laws_toIntS_c.f l = some l := by rw [laws_toIntS_c.f, if_pos h]
theorem eqI (l : List Int) : laws_eqIntS_c.f l l = some true := by simp [laws_eqIntS_c.f]
theorem markI (l : List Int) (x : Int) (h0 : 0 ≤ x) (h1 : x + l.length ≤ 4611686018427387904) : laws_markIntS_c.f l x = some (x + l.length, run x l.length) := by rw [laws_markIntS_c.f, if_pos ⟨h0, h1⟩]
theorem heldI (n : Nat) (x : Int) (h0 : 0 ≤ x) (h1 : x + n ≤ 4611686018427387904) : laws_heldIntS_c.f (run x n) x = some (x + n) := by
  have hl := run_length x n
  rw [laws_heldIntS_c.f, if_pos ⟨h0, by rw [hl]; exact h1⟩, hl]
  simp
end Go.Proofs.Ytpdhoimpbiehkaa.Q
