/- Histories: when they are valid, when one is below another. Plain definitions and lemmas. -/
import Derived.Test.YticgaflgbljhlaaAbNet3
namespace Go.Proofs.Yticgaflgbljhlaa.Ab
open Go
set_option linter.unusedVariables false
set_option linter.unusedSimpArgs false
def histOk (ps : List PG) (ks : List LK) (hs : List (List Int)) : Bool := netOk ps ks && ((hs.length : Int) == (ks.length : Int)) && hs.all strOk
def begB (a b : List Int) : Bool := decide (a.length ≤ b.length) && decide (b.take a.length = a)
def pfxB (a b : List Int) : Bool := strOk a && strOk b && begB a b
def allPfx (p : List Int → List Int → Bool) (gs hs : List (List Int)) : Bool := (List.range gs.length).all fun k => p (gs.getD k default) (hs.getD k default)
def belOk (ps : List PG) (ks : List LK) (gs hs : List (List Int)) : Bool := histOk ps ks gs && histOk ps ks hs && allPfx begB gs hs
section
variable {a b : List Int} {gs hs : List (List Int)} {ps : List PG} {ks : List LK}
theorem begB_long (h : ¬ a.length ≤ b.length) : begB a b = false := by unfold begB; rw [decide_eq_false h, Bool.false_and]
theorem begB_no {j : Nat} (hj : j < a.length) (h : ¬ b.getD j default = a.getD j default) : begB a b = false := by
  unfold begB
  rw [Bool.and_eq_false_iff]
  right
  rw [decide_eq_false_iff_not]
  intro e
  apply h
  rw [← e] at hj ⊢
  rw [List.length_take] at hj
  simp [List.getD_eq_getElem?_getD, List.getElem?_take]
  rw [if_pos (by omega)]
theorem begB_yes (hl : a.length ≤ b.length) (h : ∀ k < a.length, b.getD k default = a.getD k default) : begB a b = true := by
  unfold begB
  rw [decide_eq_true hl, Bool.true_and, decide_eq_true_eq]
  apply List.ext_getElem (by rw [List.length_take]; omega)
  intro j h1 h2
  have := h j h2
  have hb : j < b.length := by omega
  simpa [h2, hb] using this
theorem pfxB_cmp (h1 : strOk a = true) (h2 : strOk b = true) (h3 : a.length ≤ b.length) : pfxB a b = decide (a = b.take a.length) := by
  unfold pfxB begB
  rw [h1, h2, decide_eq_true h3]
  simp only [Bool.true_and]
  rw [Bool.eq_iff_iff, decide_eq_true_eq, decide_eq_true_eq]
  exact eq_comm
theorem allPfx_no {p : List Int → List Int → Bool} {j : Nat} (hj : j < gs.length) (h : p (gs.getD j default) (hs.getD j default) = false) : allPfx p gs hs = false := range_no hj h
theorem allPfx_yes {p : List Int → List Int → Bool} (h : ∀ k < gs.length, p (gs.getD k default) (hs.getD k default) = true) : allPfx p gs hs = true := all_range.2 h
theorem hist_all (h : histOk ps ks hs = true) : ∀ k < hs.length, strOk (hs.getD k default) = true := by
  simp only [histOk, Bool.and_eq_true] at h
  exact fun k hk => List.all_eq_true.1 h.2 _ (getD_mem0 hk)
theorem hist_eq (h : histOk ps ks hs = true) : hs.length = ks.length := by
  simp only [histOk, Bool.and_eq_true, beq_iff_eq] at h
  omega
theorem hist_net (h : histOk ps ks hs = true) : netOk ps ks = true := by
  simp only [histOk, Bool.and_eq_true] at h
  exact h.1.1
theorem hist_len (h : histOk ps ks gs = true) (h2 : histOk ps ks hs = true) : gs.length = hs.length := (hist_eq h).trans (hist_eq h2).symm
theorem belOk_bad (h : histOk ps ks gs = false ∨ histOk ps ks hs = false) : belOk ps ks gs hs = false := by
  unfold belOk
  rcases h with h | h <;> rw [h] <;> simp
theorem bel_both (h : ¬ (histOk ps ks gs = false ∨ histOk ps ks hs = false)) : histOk ps ks gs = true ∧ histOk ps ks hs = true := by
  cases h1 : histOk ps ks gs <;> cases h2 : histOk ps ks hs <;> simp_all
theorem belOk_no {j : Nat} (hj : j < gs.length) (h : begB (gs.getD j default) (hs.getD j default) = false) : belOk ps ks gs hs = false := by
  unfold belOk
  rw [allPfx_no (p := begB) hj h, Bool.and_false]
theorem belOk_yes (h1 : histOk ps ks gs = true) (h2 : histOk ps ks hs = true) (h : ∀ k < gs.length, begB (gs.getD k default) (hs.getD k default) = true) : belOk ps ks gs hs = true := by
  unfold belOk
  rw [h1, h2, allPfx_yes (p := begB) h]
  rfl
theorem belOk_impl : (histOk ps ks gs && histOk ps ks hs && (decide (gs.length = hs.length) && allPfx pfxB gs hs)) = belOk ps ks gs hs := by
  unfold belOk
  cases h1 : histOk ps ks gs with
  | false => rfl
  | true =>
    cases h2 : histOk ps ks hs with
    | false => rfl
    | true =>
      simp only [Bool.true_and]
      rw [decide_eq_true (hist_len h1 h2), Bool.true_and, Bool.eq_iff_iff]
      unfold allPfx
      rw [all_range, all_range]
      have hl := hist_len h1 h2
      refine forall_congr' fun k => forall_congr' fun hk => ?_
      unfold pfxB
      rw [hist_all h1 k hk, hist_all h2 k (by omega)]
      simp
end
end Go.Proofs.Yticgaflgbljhlaa.Ab
