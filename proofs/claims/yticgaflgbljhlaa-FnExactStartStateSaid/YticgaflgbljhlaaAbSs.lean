/- Rows of rows: how much they hold, marks in them. -/
import Derived.Test.YticgaflgbljhlaaAbRpo
import Derived.Test.YticgaflgbljhlaaAbP7
namespace Go.Proofs.Yticgaflgbljhlaa.Ab
open Go
set_option linter.unusedVariables false
set_option linter.unusedSimpArgs false
def tot (rs : List (List Int)) : Nat := (rs.map List.length).sum
theorem tot_nil : tot [] = 0 := rfl
theorem tot_cons (r : List Int) (rs : List (List Int)) : tot (r :: rs) = r.length + tot rs := by simp [tot]
theorem tot_app (a b : List (List Int)) : tot (a ++ b) = tot a + tot b := by simp [tot]
theorem tot_succ {rs : List (List Int)} {j : Nat} (h : j < rs.length) : tot (rs.take (j + 1)) = tot (rs.take j) + (rs.getD j default).length := by
  rw [List.take_succ_eq_append_getElem h, tot_app, tot_cons, tot_nil]
  simp [h]
theorem tot_le (rs : List (List Int)) (j : Nat) : tot (rs.take j) ≤ tot rs := by
  have := tot_app (rs.take j) (rs.drop j)
  rw [List.take_append_drop] at this
  omega
theorem tot_get {rs : List (List Int)} {j : Nat} (h : j < rs.length) : tot (rs.take j) + (rs.getD j default).length ≤ tot rs := by
  have := tot_le rs (j + 1)
  rw [tot_succ h] at this
  exact this
def szSS (n : Int) (rs : List (List Int)) : Int := if n - (rs.length : Int) - (tot rs : Int) < 0 then -1 else n - (rs.length : Int) - (tot rs : Int)
/-- Marks. -/
def mkSS : Int → List (List Int) → List (List Int)
  | _, [] => []
  | n, r :: rs => mkI n r.length :: mkSS (n + r.length) rs
theorem mkSS_len (n : Int) (rs : List (List Int)) : (mkSS n rs).length = rs.length := by
  induction rs generalizing n with
  | nil => rfl
  | cons r rs ih => simp [mkSS, ih]
theorem mkSS_app (n : Int) (a b : List (List Int)) : mkSS n (a ++ b) = mkSS n a ++ mkSS (n + tot a) b := by
  induction a generalizing n with
  | nil => simp [mkSS, tot_nil]
  | cons r a ih => simp only [List.cons_append, mkSS, ih, tot_cons]; rw [show n + (r.length : Int) + (tot a : Int) = n + ((r.length + tot a : Nat) : Int) by omega]
def upSS (n : Int) (rs : List (List Int)) (j : Nat) : List (List Int) := mkSS n (rs.take j) ++ rs.drop j
theorem upSS_zero (n : Int) (rs : List (List Int)) : upSS n rs 0 = rs := by simp [upSS, mkSS]
theorem upSS_full (n : Int) (rs : List (List Int)) : upSS n rs rs.length = mkSS n rs := by simp [upSS]
theorem upSS_len (n : Int) {rs : List (List Int)} {j : Nat} (h : j ≤ rs.length) : (upSS n rs j).length = rs.length := by simp [upSS, mkSS_len]; omega
theorem upSS_get (n : Int) {rs : List (List Int)} {j : Nat} (h : j < rs.length) : (upSS n rs j).getD j default = rs.getD j default := by
  unfold upSS
  have hl : (mkSS n (rs.take j)).length = j := by rw [mkSS_len, List.length_take]; omega
  rw [List.getD_eq_getElem?_getD, List.getElem?_append_right (by omega), hl, Nat.sub_self, List.getElem?_drop, List.getD_eq_getElem?_getD, Nat.add_zero]
theorem upSS_set (n : Int) {rs : List (List Int)} {j : Nat} (h : j < rs.length) : (upSS n rs j).set j (mkI (n + tot (rs.take j)) (rs.getD j default).length) = upSS n rs (j + 1) := by
  unfold upSS
  have hl : (mkSS n (rs.take j)).length = j := by rw [mkSS_len, List.length_take]; omega
  rw [List.set_append_right _ _ (by omega), hl, Nat.sub_self, List.drop_eq_getElem_cons h, List.set_cons_zero, List.take_succ_eq_append_getElem h, mkSS_app]
  simp [mkSS, h]
def heldSS : Int → List (List Int) → Int
  | n, [] => n
  | n, r :: rs => if heldI n r < 0 then -1 else heldSS (heldI n r) rs
theorem heldI_cases (n : Int) (r : List Int) : heldI n r = -1 ∨ heldI n r = n + r.length := by unfold heldI; split <;> simp
theorem heldI_mk' (n : Int) (k : Nat) : heldI n (mkI n k) = n + k := by unfold heldI; rw [mkI_len, if_pos rfl]
theorem heldSS_mk (n : Int) (hn : 0 ≤ n) (rs : List (List Int)) : heldSS n (mkSS n rs) = n + tot rs := by
  induction rs generalizing n with
  | nil => simp [mkSS, heldSS, tot_nil]
  | cons r rs ih =>
    simp only [mkSS, heldSS, heldI_mk']
    rw [if_neg (by omega), ih _ (by omega), tot_cons]
    omega
theorem heldSS_step {n : Int} {rs : List (List Int)} {j : Nat} (h : j < rs.length) : heldSS n (rs.drop j) = if heldI n (rs.getD j default) < 0 then -1 else heldSS (heldI n (rs.getD j default)) (rs.drop (j + 1)) := by
  rw [List.drop_eq_getElem_cons h]
  simp only [heldSS]
  simp [h]
section
variable {c : Cx} {k : List It} {st st' : St}
theorem G.unfocusF (m n : Nat) {ins : List (List Int)} {j len : Nat} {z : List A} {r : List Int} (hm : st.heap[m]? = some (some (1, (fillB ovL ins z j).set j [.sl n 0 len]))) (hn : st.heap[n]? = some (some (1, r.map iv))) (hne : m ≠ n) (hl : len = r.length) (hj : j < ins.length)
    (hr : r = ins.getD j default) (h : G c k (withH st ((st.heap.set n none).set m (some (1, fillB ovL ins z (j + 1)))))) : G c k st := by
  subst hl hr
  have hlen := fillB_len ovL z (l := ins) (i := j) (by omega)
  refine G.unfocus m j 0 n (e := [.sl n 0 (ins.getD j default).length]) hm (by rw [List.getElem?_set_self (by omega)]) rfl hn hne (by simp) (pureLL_iv _) ?_
  have e1 : ((((ins.getD j default).map iv).drop 0).take (ins.getD j default).length) = (ins.getD j default).map iv := by rw [List.drop_zero]; exact List.take_of_length_le (by simp)
  rw [e1, List.set_set]
  have e2 : ([A.sl n 0 (ins.getD j default).length].set 0 (.row true 1 ((ins.getD j default).map iv))) = ovL (ins.getD j default) := rfl
  rw [e2, fillB_set ovL z hj]
  exact h
end
end Go.Proofs.Yticgaflgbljhlaa.Ab
