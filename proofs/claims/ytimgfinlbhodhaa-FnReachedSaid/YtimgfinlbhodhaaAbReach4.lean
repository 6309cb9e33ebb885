/- What is reached, once more: the law's own words. -/
import Derived.Test.YtimgfinlbhodhaaAbReach3
namespace Go.Proofs.Ytimgfinlbhodhaa.Ab
open Go
set_option linter.unusedVariables false
set_option linter.unusedSimpArgs false
theorem Rch.trans {ks : List LK} {p a b : Int} (h1 : Rch ks p a) (h2 : Rch ks a b) : Rch ks p b := by
  induction h2 with
  | base x hx h h0 => exact .step a h1 x hx h h0
  | step c hc x hx h h0 ih => exact .step c ih x hx h h0
section
variable {ps : List PG} {ks : List LK}
def cycU (ps : List PG) (ks : List LK) : Nat → Bool
  | 0 => false
  | j + 1 => cycU ps ks j || cycAt ps ks j
theorem cycU_eq (j : Nat) : cycU ps ks j = (List.range j).any fun k => cycAt ps ks k := by
  induction j with
  | zero => rfl
  | succ j ih => rw [cycU, ih, List.range_succ, List.any_append]; simp
theorem cycO_eq (h : netOk ps ks = true) : cycO ps ks = cycU ps ks ps.length := by
  unfold cycO
  rw [h, cycU_eq, Bool.true_and, ← List.any_eq_not_all_not]
theorem reach_bd (hn : netOk ps ks = true) {p x : Int} (hp : 0 ≤ p) (hx : x ∈ reachL ps ks p) : 0 ≤ x ∧ x < (ps.length : Int) := by
  unfold reachL at hx
  rw [trueU_mem] at hx
  omega
theorem reach_in (hn : netOk ps ks = true) {p a x : Int} (hp : 0 ≤ p) (ha : a ∈ reachL ps ks p) (hx : x ∈ reachL ps ks a) : hasI (reachL ps ks p) x = true := by
  have h0 := (reach_bd hn hp ha).1
  rw [hasI_mem, reachL_mem hn hp]
  exact ((reachL_mem hn hp a).1 ha).trans ((reachL_mem hn h0 x).1 hx)
theorem reach_cyc (hn : netOk ps ks = true) {j : Nat} (hj : j < ps.length) : hasI (reachL ps ks j) (j : Int) = cycAt ps ks j := cyc_has hn hj
theorem reachL_len (ps : List PG) (ks : List LK) (p : Int) : (reachL ps ks p).length ≤ ps.length := trueU_len _ _
theorem has_succ {l : List Int} {j : Nat} (hj : j < l.length) (x : Int) : hasI (l.take (j + 1)) x = (hasI (l.take j) x || l.getD j default == x) := by
  have e : l.take (j + 1) = l.take j ++ [l.getD j default] := by
    rw [List.take_succ_eq_append_getElem hj]
    simp [List.getD_eq_getElem?_getD, hj]
  rw [e, Bool.eq_iff_iff]
  simp only [hasI_mem, Bool.or_eq_true, List.mem_append, List.mem_singleton, beq_iff_eq]
  exact ⟨fun h => h.imp id Eq.symm, fun h => h.imp id Eq.symm⟩
theorem has_all (l : List Int) (x : Int) : hasI (l.take l.length) x = hasI l x := by rw [List.take_length]
end
end Go.Proofs.Ytimgfinlbhodhaa.Ab
