/- Orders: where an index is, step by step. Plain definitions and lemmas. -/
import Derived.Test.YtimgfinlbhodhaaFwGd
namespace Go.Proofs.Ytimgfinlbhodhaa.Ab
open Go
set_option linter.unusedVariables false
set_option linter.unusedSimpArgs false
def gbv (b : Bool) : List A := [.bool b]
theorem gbv_eq (b : Bool) : gbv b = [.bool b] := rfl
theorem pureLL_gbv (l : List Bool) : pureLL (l.map gbv) = true := pureLL_all (fun x => rfl) l
section
variable {order : List Int} {n : Nat} {ks : List LK} {ps : List PG}
theorem at_ge (x : Int) : decide (atI order x ≥ 0) = hasI order x := by
  unfold atI hasI
  rw [Bool.eq_iff_iff, decide_eq_true_eq]
  cases h : order.findIdx? (fun y => y == x) with
  | none =>
    rw [gidx_none' h]
    rw [List.findIdx?_eq_none_iff] at h
    constructor
    · intro hh; omega
    · intro hh
      rw [List.any_eq_true] at hh
      obtain ⟨y, hy, e⟩ := hh
      rw [h y hy] at e
      cases e
  | some a =>
    rw [gidx_some' h]
    rw [List.findIdx?_eq_some_iff_getElem] at h
    obtain ⟨h1, h2, _⟩ := h
    exact ⟨fun _ => List.any_eq_true.2 ⟨_, List.getElem_mem h1, h2⟩, fun _ => by omega⟩
end
end Go.Proofs.Ytimgfinlbhodhaa.Ab
