/- Small lemmas on what is read, and on counters. -/
import Derived.Test.YtpdhoimpbiehkaaWWords
import Derived.Test.YtpdhoimpbiehkaaWMore
import Derived.Test.YtpdhoimpbiehkaaMath
namespace Go.Proofs.Ytpdhoimpbiehkaa.Q
open Go.RowKit Go.Proofs.YtpdhoimpbiehkaaW.PrintWords
theorem w64 {x : Int} (h1 : -9223372036854775808 ≤ x) (h2 : x ≤ 9223372036854775807) : wrap64 x = x := by
  unfold wrap64
  omega
theorem w64_succ (i : Nat) (h : i < 9223372036854775807) : wrap64 ((i : Int) + 1) = ((i + 1 : Nat) : Int) := by
  unfold wrap64
  omega
theorem w64_zero : wrap64 0 = 0 := by unfold wrap64; omega
theorem rd_eq {l : List Int} {i : Nat} (h : i < l.length) : rd l (i : Int) = l[i] := by
  simp [rd, List.getElem?_eq_getElem h]
theorem rd_drop {l : List Int} {i : Nat} (h : i < l.length) : l.drop i = rd l (i : Int) :: l.drop (i + 1) := by
  rw [rd_eq h, ← List.drop_eq_getElem_cons h]
theorem rounds_succ {d k : Nat} (h : d < k) : ∃ m, k = m + 1 := ⟨k - 1, by omega⟩
/-- Numbers from k on. -/
def run (k : Int) : Nat → List Int
  | 0 => []
  | n + 1 => k :: run (k + 1) n
theorem run_length (k : Int) (n : Nat) : (run k n).length = n := by
  induction n generalizing k with
  | zero => rfl
  | succ n ih => simp [run, ih]
end Go.Proofs.Ytpdhoimpbiehkaa.Q
