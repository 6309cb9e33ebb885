/- Streams parted, summed and put together again: plain laws. -/
import Derived.Test.YtimgfinlbhodhaaAbCur
namespace Go.Proofs.Ytimgfinlbhodhaa.Ab
open Go
set_option linter.unusedVariables false
set_option linter.unusedSimpArgs false
def part (p : Nat → Bool) (rs : List Int) : Nat → List Int × List Int
  | 0 => ([], [])
  | j + 1 => if p j = true then ((part p rs j).1 ++ [rs.getD j default], (part p rs j).2) else ((part p rs j).1, (part p rs j).2 ++ [rs.getD j default])
def sumsL (rs : List Int) : Nat → List Int × Int
  | 0 => ([], 0)
  | j + 1 => ((sumsL rs j).1 ++ [wrapT ((sumsL rs j).2 + rs.getD j default)], wrapT ((sumsL rs j).2 + rs.getD j default))
def lastA (rs : List Int) : Nat → Int
  | 0 => 0
  | j + 1 => rs.getD j default
def stepsL (rs : List Int) : Nat → List Int
  | 0 => []
  | j + 1 => stepsL rs j ++ [wrapT (rs.getD j default - lastA rs j)]
theorem sumsL_len (rs : List Int) : ∀ j, (sumsL rs j).1.length = j
  | 0 => rfl
  | j + 1 => by simp [sumsL, sumsL_len rs j]
theorem stepsL_len (rs : List Int) : ∀ j, (stepsL rs j).length = j
  | 0 => rfl
  | j + 1 => by simp [stepsL, stepsL_len rs j]
theorem sumsL_ok (rs : List Int) : ∀ j, (∀ x ∈ (sumsL rs j).1, -999999 ≤ x ∧ x ≤ 999999) ∧ -999999 ≤ (sumsL rs j).2 ∧ (sumsL rs j).2 ≤ 999999
  | 0 => by simp [sumsL]
  | j + 1 => by
    have ih := sumsL_ok rs j
    refine ⟨fun x hx => ?_, wrapT_tok _⟩
    simp only [sumsL, List.mem_append, List.mem_singleton] at hx
    rcases hx with hx | hx
    · exact ih.1 x hx
    · rw [hx]; exact wrapT_tok _
theorem stepsL_ok (rs : List Int) : ∀ j, ∀ x ∈ stepsL rs j, -999999 ≤ x ∧ x ≤ 999999
  | 0 => by simp [stepsL]
  | j + 1 => by
    intro x hx
    simp only [stepsL, List.mem_append, List.mem_singleton] at hx
    rcases hx with hx | hx
    · exact stepsL_ok rs j x hx
    · rw [hx]; exact wrapT_tok _
theorem wrapT_q (n : Int) : ∃ q, n = wrapT n + 1999999 * q := by
  have h := Int.tmod_add_mul_tdiv n 1999999
  unfold wrapT
  split
  · exact ⟨n.tdiv 1999999 + 1, by omega⟩
  · split
    · exact ⟨n.tdiv 1999999 - 1, by omega⟩
    · exact ⟨n.tdiv 1999999, by omega⟩
theorem wrapT_un {n x q : Int} (h : n = x + 1999999 * q) (h1 : -999999 ≤ x) (h2 : x ≤ 999999) : wrapT n = x := by
  obtain ⟨q2, e⟩ := wrapT_q n
  have := wrapT_tok n
  generalize wrapT n = w at *
  omega
theorem takeS_snoc (rs : List Int) {j : Nat} (h : j < rs.length) : rs.take (j + 1) = rs.take j ++ [rs.getD j default] := by
  rw [List.take_add_one, List.getD_eq_getElem?_getD, List.getElem?_eq_getElem h]
  rfl
theorem getD_tok {rs : List Int} (ht : ∀ x ∈ rs, -999999 ≤ x ∧ x ≤ 999999) {j : Nat} (h : j < rs.length) : -999999 ≤ rs.getD j default ∧ rs.getD j default ≤ 999999 := by
  rw [List.getD_eq_getElem?_getD, List.getElem?_eq_getElem h]
  exact ht _ (List.getElem_mem h)
theorem strOk_len2 {rs : List Int} (h : strOk rs = true) : rs.length ≤ 400 := by
  simp only [strOk, Bool.and_eq_true, decide_eq_true_eq] at h
  omega
end Go.Proofs.Ytimgfinlbhodhaa.Ab
