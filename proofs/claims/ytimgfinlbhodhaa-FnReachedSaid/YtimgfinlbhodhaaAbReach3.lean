/- The search from the first of a row: what stands at each step. -/
import Derived.Test.YtimgfinlbhodhaaAbReach2
namespace Go.Proofs.Ytimgfinlbhodhaa.Ab
open Go
set_option linter.unusedVariables false
set_option linter.unusedSimpArgs false
section
variable {ks : List LK} {p h : Int} {n M o c i : Nat} {out R : List Int}
structure RfW (ks : List LK) (p : Int) (n : Nat) (out R : List Int) (o c : Nat) : Prop where
  bf : BfW ks p n out (R.drop o)
  l1 : o + c ≤ R.length
  l2 : R.length ≤ o + c
  m : 2 * (n - out.length) + c ≤ 2 * n + 1
structure RiW (ks : List LK) (p : Int) (n : Nat) (h : Int) (M : Nat) (out R : List Int) (o c i : Nat) : Prop where
  rf : RfW ks p n out R o c
  hd : 0 < c
  he : R.getD o default = h
  ii : i ≤ ks.length
  dn : ∀ k < i, (ks.getD k default).fr = h → 0 ≤ (ks.getD k default).to → (ks.getD k default).to ∈ out
  mm : 2 * (n - out.length) + c ≤ M
theorem drop_hd (ho : o < R.length) : R.drop o = R.getD o default :: R.drop (o + 1) := by
  rw [List.drop_eq_getElem_cons ho]
  simp [List.getD_eq_getElem?_getD, ho]
theorem rf_zero : RfW ks p n [] [p] 0 1 := ⟨bf_zero, by simp, by simp, by simp⟩
theorem RfW.len (w : RfW ks p n out R o c) : out.length ≤ n ∧ c ≤ 2 * n + 1 := by
  have := bf_len w.bf
  have := w.m
  omega
theorem ri_begin (w : RfW ks p n out R o c) (hc : 0 < c) : RiW ks p n (R.getD o default) (2 * (n - out.length) + c) out R o c 0 := ⟨w, hc, rfl, Nat.zero_le _, by omega, Nat.le_refl _⟩
theorem ri_skip (w : RiW ks p n h M out R o c i) (hi : i < ks.length) (hs : (ks.getD i default).fr = h → 0 ≤ (ks.getD i default).to → hasI out (ks.getD i default).to = true) : RiW ks p n h M out R o c (i + 1) := by
  refine ⟨w.rf, w.hd, w.he, hi, fun k hk h1 h2 => ?_, w.mm⟩
  by_cases e : k = i
  · subst e; exact hasI_mem.1 (hs h1 h2)
  · exact w.dn k (by omega) h1 h2
theorem ri_add (w : RiW ks p n h M out R o c i) (hr : RngK ks n) (hi : i < ks.length) (hf : (ks.getD i default).fr = h) (h0 : 0 ≤ (ks.getD i default).to) (hn : hasI out (ks.getD i default).to = false) :
    RiW ks p n h M (out ++ [(ks.getD i default).to]) (R.drop o ++ [(ks.getD i default).to]) 0 (c + 1) (i + 1) := by
  have l1 := w.rf.l1
  have l2 := w.rf.l2
  have hd := w.hd
  have hm := w.rf.m
  have hmm := w.mm
  have ho : o < R.length := by omega
  have hx : ks.getD i default ∈ ks := getD_mem0 hi
  have hrow : ∀ b ∈ R.drop o, b = p ∨ b ∈ out := w.rf.bf.rw_
  have hfr : (ks.getD i default).fr = p ∨ (ks.getD i default).fr ∈ out := by
    rw [hf]
    exact hrow h (by rw [drop_hd ho, w.he]; simp)
  have hb := bf_add w.rf.bf hr hx hfr h0 (fun hh => by rw [hasI_mem.2 hh] at hn; simp at hn)
  have hbl := bf_len hb
  rw [List.length_append] at hbl
  simp only [List.length_singleton] at hbl
  refine ⟨⟨by rw [List.drop_zero]; exact hb, by simp; omega, by simp; omega, by rw [List.length_append]; simp only [List.length_singleton]; omega⟩, by omega, ?_, hi, fun k hk h1 h2 => ?_, by rw [List.length_append]; simp only [List.length_singleton]; omega⟩
  · rw [drop_hd ho, List.cons_append, List.getD_cons_zero]
    exact w.he
  · by_cases e : k = i
    · subst e; simp
    · exact List.mem_append.2 (.inl (w.dn k (by omega) h1 h2))
theorem ri_end (w : RiW ks p n h M out R o c i) (hi : ks.length ≤ i) : RfW ks p n out R (o + 1) (c - 1) := by
  have l1 := w.rf.l1
  have l2 := w.rf.l2
  have hd := w.hd
  have hm := w.rf.m
  have ho : o < R.length := by omega
  have hb := w.rf.bf
  rw [drop_hd ho] at hb
  refine ⟨bf_pop hb fun x hx e1 e2 => ?_, by omega, by omega, by omega⟩
  obtain ⟨k, hk, e⟩ := List.getElem_of_mem hx
  have e3 : ks.getD k default = x := by simpa [List.getD_eq_getElem?_getD, hk] using e
  have := w.dn k (by omega)
  rw [e3] at this
  exact this (by rw [e1, w.he]) e2
theorem rf_end (w : RfW ks p n out R o c) (hc : ¬ (c : Int) > 0) : out.Nodup ∧ ∀ x, x ∈ out ↔ Rch ks p x := by
  have l2 := w.l2
  have hb := w.bf
  rw [List.drop_eq_nil_of_le (by omega)] at hb
  exact ⟨hb.nd, bf_end hb⟩
end
section
variable {ps : List PG} {ks : List LK} {p : Int}
theorem has_no1 (h : p < 0) : hasP ps p = false := by
  unfold hasP
  rw [decide_eq_false (by omega)]; rfl
theorem has_no2 (h : p ≥ (ps.length : Int)) : hasP ps p = false := by
  unfold hasP
  rw [decide_eq_false (p := p < (ps.length : Int)) (by omega), Bool.and_false]
theorem has_yes (h : ¬ p < 0) (h2 : ¬ p ≥ (ps.length : Int)) : hasP ps p = true := by
  unfold hasP
  rw [decide_eq_true (by omega), decide_eq_true (by omega)]; rfl
end
end Go.Proofs.Ytimgfinlbhodhaa.Ab
