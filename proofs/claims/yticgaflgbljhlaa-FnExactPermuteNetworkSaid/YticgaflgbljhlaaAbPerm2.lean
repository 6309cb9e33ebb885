/- Orders: where an index is, step by step. Plain definitions and lemmas. -/
import Derived.Test.YticgaflgbljhlaaFwGd
namespace Go.Proofs.Yticgaflgbljhlaa.Ab
open Go
set_option linter.unusedVariables false
set_option linter.unusedSimpArgs false
def gbv (b : Bool) : List A := [.bool b]
theorem gbv_eq (b : Bool) : gbv b = [.bool b] := rfl
theorem pureLL_gbv (l : List Bool) : pureLL (l.map gbv) = true := pureLL_all (fun x => rfl) l
section
variable {order : List Int} {n : Nat} {ks : List LK} {ps : List PG}
theorem at_ge (x : Int) : decide (atI order x ≥ 0) = hasI order x := by
  unfold atI hasI
  rw [Bool.eq_iff_iff, decide_eq_true_eq]
  cases h : order.findIdx? (fun y => y == x) with
  | none =>
    rw [gidx_none' h]
    rw [List.findIdx?_eq_none_iff] at h
    constructor
    · intro hh; omega
    · intro hh
      rw [List.any_eq_true] at hh
      obtain ⟨y, hy, e⟩ := hh
      rw [h y hy] at e
      cases e
  | some a =>
    rw [gidx_some' h]
    rw [List.findIdx?_eq_some_iff_getElem] at h
    obtain ⟨h1, h2, _⟩ := h
    exact ⟨fun _ => List.any_eq_true.2 ⟨_, List.getElem_mem h1, h2⟩, fun _ => by omega⟩
theorem at_list (n : Nat) {k : Nat} (h : k < n) : ((List.range n).map fun (k : Nat) => atI order k).getD k default = atI order (k : Int) := by
  simp [List.getD_eq_getElem?_getD, h]
theorem met_no {j : Nat} (hl : order.length = n) (hin : ∀ k < j, 0 ≤ order.getD k default ∧ order.getD k default < (n : Int)) (hj : j < order.length) (h0 : 0 ≤ order.getD j default) (h1 : order.getD j default < (n : Int)) (h : (metU order n j).getD (order.getD j default).toNat default = true) : isPerm order n = false := by
  obtain ⟨k, hk, e⟩ := (metU_yes hin h0 h1).1 h
  exact perm_no_two hk hj e
theorem met_yes {j : Nat} (hin : ∀ k < j, 0 ≤ order.getD k default ∧ order.getD k default < (n : Int)) (h0 : 0 ≤ order.getD j default) (h1 : order.getD j default < (n : Int)) (h : (metU order n j).getD (order.getD j default).toNat default = false) : ∀ m < j, order.getD m default ≠ order.getD j default := by
  intro m hm e
  rw [(metU_yes hin h0 h1).2 ⟨m, hm, e⟩] at h
  cases h
theorem invO_no (h : isPerm order n = false) : invO order n = ([], false) := by unfold invO; rw [h, if_neg (by simp)]
theorem invO_yes (h : isPerm order n = true) : invO order n = ((List.range n).map (fun (k : Nat) => atI order k), true) := by unfold invO; rw [if_pos h]
theorem invO_snd : (invO order n).2 = isPerm order n := by
  unfold invO
  cases h : isPerm order n <;> rfl
theorem invO_len : (invO order n).1.length ≤ n := by
  unfold invO
  split <;> simp
theorem mvK_row {j : Nat} (hj : j < ks.length) {a b : Int} (ha : (if (ks.getD j default).fr ≥ 0 then atI order (ks.getD j default).fr else (ks.getD j default).fr) = a) (hb : (if (ks.getD j default).to ≥ 0 then atI order (ks.getD j default).to else (ks.getD j default).to) = b) :
    (List.map okv (mvKU ks order j)).set j [.int .i64 a, .int .i64 (ks.getD j default).ou, .int .i64 b, .int .i64 (ks.getD j default).ip, .row true 1 ((ks.getD j default).tk.map iv)] = (mvKU ks order (j + 1)).map okv := by
  rw [← mvKU_set hj, List.map_set]
  congr 1
  subst ha hb
  rfl
theorem mvK_same {j : Nat} (hj : j < ks.length) (hf : ¬ (ks.getD j default).fr ≥ 0) (ht : ¬ (ks.getD j default).to ≥ 0) : mvKU ks order (j + 1) = mvKU ks order j := by
  rw [← mvKU_set hj]
  have : mvK order (ks.getD j default) = ks.getD j default := by
    unfold mvK
    rw [if_neg hf, if_neg ht]
  rw [this, ← mvKU_get (order := order) hj]
  exact set_getD (by rw [mvKU_len (by omega)]; exact hj)
end
end Go.Proofs.Yticgaflgbljhlaa.Ab
