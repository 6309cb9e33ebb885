/- StepNetwork: what it answers, and its bounds. Plain. -/
import Derived.Test.YtdcjlemkegifjaaGreatAbStepN
namespace Go.Proofs.YtdcjlemkegifjaaGreat.Ab
open Go
set_option linter.unusedVariables false
set_option linter.unusedSimpArgs false
def stepSO (ps : List PG) (ks : List LK) (xs : List AT) (qs hs : List (List Int)) (t : Int) (k : Int) : ST :=
 if canO ps ks xs qs hs t k = true then ⟨xsK ps ks xs qs k.toNat, qsK ps ks xs qs k.toNat, hsK ps ks xs hs k.toNat, t + 1⟩ else ⟨[], [], [], 0⟩
theorem first3 {n m : Nat} (h : n = 3) (hm : m < n) {sel : List Nat} (h0 : sel[0]? = some 0) (h1 : sel[1]? = some 1) (h2 : sel[2]? = some 2) : sel[m]? = some m := by
 subst h
 match m, hm with
 | 0, _ => exact h0
 | 1, _ => exact h1
 | 2, _ => exact h2
theorem mem_getDx {α : Type} [Inhabited α] {l : List α} {x : α} (h : x ∈ l) : ∃ j, j < l.length ∧ l.getD j default = x := by
 obtain ⟨j, hj, rfl⟩ := List.getElem_of_mem h
 exact ⟨j, hj, by simp [List.getD_eq_getElem?_getD, hj]⟩
section
variable {ps : List PG} {ks : List LK} {xs : List AT} {qs hs : List (List Int)} {t : Int} {k : Int}
theorem canO_w (h : canO ps ks xs qs hs t k = true) : stOk ps ks xs qs hs t = true ∧ hasP ps k = true ∧ canK ps ks xs qs hs t k.toNat = true := by
 unfold canO at h
 simp only [Bool.and_eq_true] at h
 exact ⟨h.1.1, h.1.2, h.2⟩
theorem canO_n (h : canO ps ks xs qs hs t k = true) : ∃ n : Nat, k = (n : Int) ∧ n < ps.length ∧ canK ps ks xs qs hs t n = true ∧ stOk ps ks xs qs hs t = true := by
 obtain ⟨h1, h2, h3⟩ := canO_w h
 obtain ⟨k0, k1⟩ := hasP_iff.1 h2
 exact ⟨k.toNat, by omega, by omega, h3, h1⟩
theorem stepSO_no (h : canO ps ks xs qs hs t k = false) : stepSO ps ks xs qs hs t k = ⟨[], [], [], 0⟩ := by unfold stepSO; rw [h]; rfl
theorem stepSO_yes (n : Nat) (h : canO ps ks xs qs hs t (n : Int) = true) : stepSO ps ks xs qs hs t (n : Int) = ⟨xsK ps ks xs qs n, qsK ps ks xs qs n, hsK ps ks xs hs n, t + 1⟩ := by unfold stepSO; rw [if_pos h, Int.toNat_natCast]
theorem stepSO_bd (ps : List PG) (ks : List LK) (xs : List AT) (qs hs : List (List Int)) (t : Int) (k : Int) : (stepSO ps ks xs qs hs t k).xs.length ≤ 12 ∧ (stepSO ps ks xs qs hs t k).qs.length ≤ 30 ∧ (stepSO ps ks xs qs hs t k).hs.length ≤ 30 ∧ (∀ x ∈ (stepSO ps ks xs qs hs t k).xs, x.rs.length ≤ 4) ∧ (∀ r ∈ (stepSO ps ks xs qs hs t k).qs, r.length ≤ 400) ∧ ∀ r ∈ (stepSO ps ks xs qs hs t k).hs, r.length ≤ 400 := by
 cases h : canO ps ks xs qs hs t k with
 | false => rw [stepSO_no h]; simp
 | true =>
  obtain ⟨n, rfl, hn, hc, hst⟩ := canO_n h
  rw [stepSO_yes n h]
  have w := stOk_w hst
  have w2 := step_st w hn hc
  have hnw := netOk_w w.net
  have h1 := hnw.pl
  have h2 := hnw.kl
  have e1 := w2.xl
  have e2 := w2.ql
  have e3 := w2.hl
  simp only
  refine ⟨by omega, by omega, by omega, fun x hx => ?_, fun r hr => ?_, fun r hr => ?_⟩
  ·obtain ⟨j, hj, rfl⟩ := mem_getDx hx
   have := st_a w2 j hj
   omega
  ·obtain ⟨j, hj, rfl⟩ := mem_getDx hr
   have := st_q w2 j hj
   omega
  ·obtain ⟨j, hj, rfl⟩ := mem_getDx hr
   have := st_h w2 j hj
   omega
theorem roLL_set {l : List (List A)} {k : Nat} {c : List A} : roLL (l.set k c) = (roLL l).set k (roL c) := by
 rw [roLL_map, List.map_set, ← roLL_map]
theorem set_selfX {α : Type} [Inhabited α] {l : List α} {k : Nat} (h : k < l.length) : l.set k (l.getD k default) = l := by
 apply List.ext_getElem?
 intro j
 rw [List.getElem?_set]
 split
 ·rename_i e
  subst e
  simp [h, List.getD_eq_getElem?_getD]
 ·rfl
end
end Go.Proofs.YtdcjlemkegifjaaGreat.Ab
