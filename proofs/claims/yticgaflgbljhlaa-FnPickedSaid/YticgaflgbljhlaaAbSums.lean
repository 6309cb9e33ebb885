/- Streams parted, summed and put together again: plain laws. -/
import Derived.Test.YticgaflgbljhlaaAbCur
namespace Go.Proofs.Yticgaflgbljhlaa.Ab
open Go
set_option linter.unusedVariables false
set_option linter.unusedSimpArgs false
def part (p : Nat → Bool) (rs : List Int) : Nat → List Int × List Int
  | 0 => ([], [])
  | j + 1 => if p j = true then ((part p rs j).1 ++ [rs.getD j default], (part p rs j).2) else ((part p rs j).1, (part p rs j).2 ++ [rs.getD j default])
theorem strOk_mk {rs : List Int} (h : ∀ x ∈ rs, -999999 ≤ x ∧ x ≤ 999999) (hl : rs.length ≤ 400) : strOk rs = true := by
  simp only [strOk, Bool.and_eq_true, decide_eq_true_eq, List.all_eq_true]
  exact ⟨fun x hx => tok_iff.2 (h x hx), by omega⟩
end Go.Proofs.Yticgaflgbljhlaa.Ab
