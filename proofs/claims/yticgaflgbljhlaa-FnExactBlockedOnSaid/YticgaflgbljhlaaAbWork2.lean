/- Networks at work: the first process that can step. Plain definitions and lemmas. -/
import Derived.Test.YticgaflgbljhlaaFwGd
namespace Go.Proofs.Yticgaflgbljhlaa.Ab
open Go
set_option linter.unusedVariables false
set_option linter.unusedSimpArgs false
section
variable {ps : List PG} {ks : List LK} {xs : List AT} {qs hs : List (List Int)} {t : Int}
def fstI (ps : List PG) (ks : List LK) (xs : List AT) (qs hs : List (List Int)) (t : Int) : Int := gidx (fun k => canK ps ks xs qs hs t k) (List.range ps.length)
theorem fst_yes {j : Nat} (hj : j < ps.length) (h : canK ps ks xs qs hs t j = true) (hall : ∀ k < j, canK ps ks xs qs hs t k = false) : fstI ps ks xs qs hs t = (j : Int) := by
  unfold fstI
  refine gidx_some' ?_
  rw [List.findIdx?_eq_some_iff_getElem]
  refine ⟨by simpa using hj, by simpa using h, fun m hm => ?_⟩
  simpa using hall m hm
theorem fst_no (hall : ∀ k < ps.length, canK ps ks xs qs hs t k = false) : fstI ps ks xs qs hs t = -1 := by
  unfold fstI
  refine gidx_none' ?_
  rw [List.findIdx?_eq_none_iff]
  intro x hx
  simpa using hall x (List.mem_range.1 hx)
theorem fst_neg : decide (fstI ps ks xs qs hs t < 0) = firstC ps ks xs qs hs t := by
  by_cases h : ∀ k < ps.length, canK ps ks xs qs hs t k = false
  · rw [fst_no h, first_yes h]; rfl
  · have hh : ∃ k, k < ps.length ∧ canK ps ks xs qs hs t k = true := by
      apply Classical.byContradiction
      intro hc
      apply h
      intro k hk
      cases e : canK ps ks xs qs hs t k with
      | false => rfl
      | true => exact absurd ⟨k, hk, e⟩ hc
    obtain ⟨k, hk, e⟩ := hh
    rw [first_no hk e, decide_eq_false_iff_not]
    intro hlt
    unfold fstI at hlt
    cases e2 : (List.range ps.length).findIdx? (fun k => canK ps ks xs qs hs t k) with
    | none =>
      rw [List.findIdx?_eq_none_iff] at e2
      have := e2 k (List.mem_range.2 hk)
      rw [e] at this
      cases this
    | some a => rw [gidx_some' e2] at hlt; omega
end
end Go.Proofs.Yticgaflgbljhlaa.Ab
