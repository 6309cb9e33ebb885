/- Rows joined: plain definitions and lemmas. -/
import Derived.Test.YtimgfinlbhodhaaFwGd
import Derived.Test.YtimgfinlbhodhaaAbFreeze
import Derived.Test.YtimgfinlbhodhaaAbGrow
namespace Go.Proofs.Ytimgfinlbhodhaa.Ab
open Go
set_option linter.unusedVariables false
set_option linter.unusedSimpArgs false
def ppv (x : List PG) : List A := [.row false 3 (x.map pv)]
theorem ppv_eq (x : List PG) : ppv x = [.row false 3 (x.map pv)] := rfl
theorem ppv_inj {l l' : List (List PG)} : l.map ppv = l'.map ppv ↔ l = l' := ⟨map_inj (fun x y h => by simpa [ppv, pv_inj] using h), fun h => by rw [h]⟩
section
variable {α : Type} {ls : List (List α)}
def flT (ls : List (List α)) (j : Nat) : List α := (ls.take j).flatten
theorem flT_zero : flT ls 0 = [] := by simp [flT]
theorem flT_succ {j : Nat} (h : j < ls.length) : flT ls (j + 1) = flT ls j ++ ls.getD j default := by
 unfold flT
 rw [← take_snoc h, List.flatten_append]
 simp
theorem flT_le (j : Nat) : (flT ls j).length ≤ ls.flatten.length := by
 unfold flT
 have : ls.flatten = (ls.take j).flatten ++ (ls.drop j).flatten := by rw [← List.flatten_append, List.take_append_drop]
 rw [this, List.length_append]
 omega
theorem flT_end : flT ls ls.length = ls.flatten := by unfold flT; rw [List.take_length]
theorem flT_row {j : Nat} (h : j < ls.length) : (flT ls j).length + (ls.getD j default).length = (flT ls (j + 1)).length := by rw [flT_succ h, List.length_append]
end
end Go.Proofs.Ytimgfinlbhodhaa.Ab
