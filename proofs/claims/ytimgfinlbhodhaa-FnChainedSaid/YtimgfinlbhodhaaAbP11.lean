/- Walks of functions of the program: what each answers, for all arguments that meet its conditions. -/
import Derived.Test.YtimgfinlbhodhaaFwGc
import Derived.Test.YtimgfinlbhodhaaFwB
namespace Go.Proofs.Ytimgfinlbhodhaa.Ab
open Go
set_option linter.unusedVariables false
set_option linter.unusedSimpArgs false
set_option maxHeartbeats 4000000
-- not in this seat: specHoldT
def holdL (N : Nat) (rs : List Int) : List Int := rs.flatMap fun x => List.replicate N x
theorem holdL_len (N : Nat) (rs : List Int) : (holdL N rs).length = rs.length * N := by
  induction rs with
  | nil => simp [holdL]
  | cons x rs ih => simp only [holdL, List.flatMap_cons, List.length_append, List.length_replicate, List.length_cons] at ih ⊢; rw [ih, Nat.add_mul]; omega
theorem holdL_step (N : Nat) {rs : List Int} {j : Nat} (h : j < rs.length) : holdL N (rs.take (j + 1)) = holdL N (rs.take j) ++ List.replicate N (rs.getD j default) := by
  rw [List.take_succ_eq_append_getElem h]
  simp only [holdL, List.flatMap_append, List.flatMap_cons, List.flatMap_nil, List.append_nil]
  simp [h]
theorem strOk_len {xs : List Int} (h : strOk xs = true) : xs.length ≤ 400 := by
  simp only [strOk, Bool.and_eq_true, decide_eq_true_eq] at h
  omega
-- not in this seat: specHoldF
-- not in this seat: specHoldB
-- not in this seat: specHold
def holdBad (rs : List Int) (n : Int) : Bool := !(strOk rs) || decide (n < 0) || (decide ((rs.length : Int) > 0) && decide (n > 400))
def holdOut (rs : List Int) (n : Int) : List Int × Bool := if holdBad rs n = true then ([], false) else if strOk (holdL n.toNat rs) = true then (holdL n.toNat rs, true) else ([], false)
theorem weak_nil2 {w : World} {S : Nat → Prop} {x : A} {v : Value} {f : List Nat} (h : Rel w S [] (.tup [.nils, x]) v f) : Rel w S [] (.tup [.row true 1 [], x]) v f := by
  cases h with
  | tup h =>
    cases h with
    | cons h1 h =>
      cases h1
      exact .tup (.cons (.own0 _ _) h)
end Go.Proofs.Ytimgfinlbhodhaa.Ab
