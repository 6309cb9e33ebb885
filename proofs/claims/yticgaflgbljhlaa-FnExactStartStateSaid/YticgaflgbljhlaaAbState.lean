/- States: when they are valid, how much they hold. Plain definitions and lemmas. -/
import Derived.Test.YticgaflgbljhlaaAbHist
import Derived.Test.YticgaflgbljhlaaAbNet4
namespace Go.Proofs.Yticgaflgbljhlaa.Ab
open Go
set_option linter.unusedVariables false
set_option linter.unusedSimpArgs false
def XW (xs : List AT) : Prop := ∀ x ∈ xs, x.rs.length < 17592186044416
theorem at_ext {a b : AT} : (a.pc, a.rs) = (b.pc, b.rs) ↔ a = b := by
  obtain ⟨a1, a2⟩ := a
  obtain ⟨b1, b2⟩ := b
  simp
def endB (a b : List Int) : Bool := decide (a.length ≤ b.length) && decide (b.drop (b.length - a.length) = a)
def linkSt (x : LK) (q h : List Int) : Bool := strOk q && strOk h && begB x.tk h && endB q h && !((x.fr == -1 && !((h.length : Int) == (x.tk.length : Int))) || (x.to == -1 && !((h.length : Int) == (q.length : Int))))
def actAt (ps : List PG) (xs : List AT) (k : Nat) : Bool := actOk (xs.getD k default).pc (ps.getD k default).l.length (xs.getD k default).rs
def linkAt (ks : List LK) (qs hs : List (List Int)) (k : Nat) : Bool := linkSt (ks.getD k default) (qs.getD k default) (hs.getD k default)
def stBig (ps : List PG) (ks : List LK) (xs : List AT) (qs hs : List (List Int)) (t : Int) : Bool := netOk ps ks && ((xs.length : Int) == (ps.length : Int)) && ((qs.length : Int) == (ks.length : Int)) && ((hs.length : Int) == (ks.length : Int)) && inR t 0 20000
def stOk (ps : List PG) (ks : List LK) (xs : List AT) (qs hs : List (List Int)) (t : Int) : Bool := stBig ps ks xs qs hs t && (List.range ps.length).all (actAt ps xs) && (List.range ks.length).all (linkAt ks qs hs)
section
variable {ps : List PG} {ks : List LK} {xs : List AT} {qs hs : List (List Int)} {t : Int}
theorem stBig_w (h : stBig ps ks xs qs hs t = true) : netOk ps ks = true ∧ xs.length = ps.length ∧ qs.length = ks.length ∧ hs.length = ks.length ∧ 0 ≤ t ∧ t ≤ 20000 := by
  simp only [stBig, Bool.and_eq_true, beq_iff_eq, inR, decide_eq_true_eq] at h
  obtain ⟨⟨⟨⟨h1, h2⟩, h3⟩, h4⟩, h5⟩ := h
  exact ⟨h1, by omega, by omega, by omega, by omega, by omega⟩
theorem stOk_big (h : stBig ps ks xs qs hs t = false) : stOk ps ks xs qs hs t = false := by simp [stOk, h]
theorem stOk_act {k : Nat} (hk : k < ps.length) (h : actAt ps xs k = false) : stOk ps ks xs qs hs t = false := by
  unfold stOk
  rw [range_no (p := actAt ps xs) hk h]
  simp
theorem stOk_link {k : Nat} (hk : k < ks.length) (h : linkAt ks qs hs k = false) : stOk ps ks xs qs hs t = false := by
  unfold stOk
  rw [range_no (p := linkAt ks qs hs) hk h]
  simp
theorem stOk_yes (hb : stBig ps ks xs qs hs t = true) (h1 : ∀ k < ps.length, actAt ps xs k = true) (h2 : ∀ k < ks.length, linkAt ks qs hs k = true) : stOk ps ks xs qs hs t = true := by
  unfold stOk
  rw [hb, all_range.2 h1, all_range.2 h2]
  rfl
/-- What is known of a valid state. -/
structure StW (ps : List PG) (ks : List LK) (xs : List AT) (qs hs : List (List Int)) (t : Int) : Prop where
  net : netOk ps ks = true
  xl : xs.length = ps.length
  ql : qs.length = ks.length
  hl : hs.length = ks.length
  t0 : 0 ≤ t
  t1 : t ≤ 20000
  act : ∀ k < ps.length, actOk (xs.getD k default).pc (ps.getD k default).l.length (xs.getD k default).rs = true
  lnk : ∀ k < ks.length, linkSt (ks.getD k default) (qs.getD k default) (hs.getD k default) = true
theorem stOk_w (h : stOk ps ks xs qs hs t = true) : StW ps ks xs qs hs t := by
  simp only [stOk, Bool.and_eq_true, all_range] at h
  obtain ⟨⟨h1, h2⟩, h3⟩ := h
  obtain ⟨g1, g2, g3, g4, g5, g6⟩ := stBig_w h1
  exact ⟨g1, g2, g3, g4, g5, g6, h2, h3⟩
end
section
variable {a b : List Int}
theorem endB_long (h : ¬ a.length ≤ b.length) : endB a b = false := by unfold endB; rw [decide_eq_false h, Bool.false_and]
theorem endB_beg (h : a.length ≤ b.length) : begB a (b.drop (b.length - a.length)) = endB a b := by
  unfold begB endB
  have hl : (b.drop (b.length - a.length)).length = a.length := by rw [List.length_drop]; omega
  rw [decide_eq_true h, hl, decide_eq_true (Nat.le_refl _), List.take_of_length_le (by omega)]
theorem endB_eq (h : a.length ≤ b.length) : decide (a = b.drop (b.length - a.length)) = endB a b := by
  unfold endB
  rw [decide_eq_true h, Bool.true_and, Bool.eq_iff_iff, decide_eq_true_eq, decide_eq_true_eq]
  exact eq_comm
end
section
variable {x : LK} {q h : List Int}
theorem link_mk (h1 : strOk q = true) (h2 : strOk h = true) (h3 : begB x.tk h = true) (h4 : endB q h = true) (h5 : (x.fr = -1 → (h.length : Int) = (x.tk.length : Int)) ∧ (x.to = -1 → (h.length : Int) = (q.length : Int))) : linkSt x q h = true := by
  unfold linkSt
  rw [h1, h2, h3, h4]
  simp only [Bool.true_and, Bool.not_eq_true', Bool.or_eq_false_iff, Bool.and_eq_false_imp, beq_iff_eq, Bool.not_eq_false']
  exact h5
theorem link_of (hh : linkSt x q h = true) : strOk q = true ∧ strOk h = true ∧ begB x.tk h = true ∧ endB q h = true ∧ (x.fr = -1 → (h.length : Int) = (x.tk.length : Int)) ∧ (x.to = -1 → (h.length : Int) = (q.length : Int)) := by
  unfold linkSt at hh
  simp only [Bool.and_eq_true, Bool.not_eq_true', Bool.or_eq_false_iff, Bool.and_eq_false_imp, beq_iff_eq, Bool.not_eq_false'] at hh
  obtain ⟨⟨⟨⟨h1, h2⟩, h3⟩, h4⟩, h5, h6⟩ := hh
  exact ⟨h1, h2, h3, h4, h5, h6⟩
theorem link_noA (g : ((if strOk q = false then true else !strOk h) = true ∨ begB x.tk h = false) ∨ endB q h = false) : linkSt x q h = false := by
  rw [Bool.eq_false_iff]
  intro e
  obtain ⟨h1, h2, h3, h4, _⟩ := link_of e
  rw [h1, h2, h3, h4] at g
  simp at g
theorem link_noB (g : x.fr = -1 ∧ ¬(h.length : Int) = (x.tk.length : Int) ∨ x.to = -1 ∧ ¬(h.length : Int) = (q.length : Int)) : linkSt x q h = false := by
  rw [Bool.eq_false_iff]
  intro e
  obtain ⟨_, _, _, _, h5, h6⟩ := link_of e
  rcases g with g | g
  · exact g.2 (h5 g.1)
  · exact g.2 (h6 g.1)
theorem link_noC (g : x.fr = -1 ∧ ¬(h.length : Int) = (x.tk.length : Int) ∨ x.to = -1 ∧ ¬(q.length : Int) = (h.length : Int)) : linkSt x q h = false := link_noB (g.imp id (fun g => ⟨g.1, fun e => g.2 e.symm⟩))
theorem link_yes2 (g : ((if strOk q = false then true else !strOk h) = false ∧ begB x.tk h = true) ∧ endB q h = true) (g2 : (x.fr = -1 → (h.length : Int) = (x.tk.length : Int)) ∧ (x.to = -1 → (h.length : Int) = (q.length : Int))) : linkSt x q h = true := by
  obtain ⟨⟨g0, g3⟩, g4⟩ := g
  have h1 : strOk q = true := by cases e : strOk q <;> simp_all
  have h2 : strOk h = true := by cases e : strOk h <;> simp_all
  exact link_mk h1 h2 g3 g4 g2
theorem link_q (g : strOk q = false) : linkSt x q h = false := by unfold linkSt; rw [g]; simp
theorem link_pfx (htk : strOk x.tk = true) (g : pfxB x.tk h = false) : linkSt x q h = false := by
  rw [Bool.eq_false_iff]
  intro e
  obtain ⟨_, h2, h3, _⟩ := link_of e
  unfold pfxB at g
  rw [htk, h2, h3] at g
  simp at g
theorem link_long (g : ¬ q.length ≤ h.length) : linkSt x q h = false := by
  rw [Bool.eq_false_iff]
  intro e
  obtain ⟨_, _, _, h4, _⟩ := link_of e
  rw [endB_long g] at h4
  cases h4
theorem link_end (hl : q.length ≤ h.length) (g : ¬ q = h.drop (h.length - q.length)) : linkSt x q h = false := by
  rw [Bool.eq_false_iff]
  intro e
  obtain ⟨_, _, _, h4, _⟩ := link_of e
  rw [← endB_eq hl, decide_eq_true_eq] at h4
  exact g h4
theorem link_yes3 (h1 : strOk q = true) (g : pfxB x.tk h = true) (hl : q.length ≤ h.length) (g3 : endB q h = true) (g2 : (x.fr = -1 → (h.length : Int) = (x.tk.length : Int)) ∧ (x.to = -1 → (q.length : Int) = (h.length : Int))) : linkSt x q h = true := by
  unfold pfxB at g
  simp only [Bool.and_eq_true] at g
  obtain ⟨⟨_, h2⟩, h3⟩ := g
  exact link_mk h1 h2 h3 g3 ⟨g2.1, fun e => (g2.2 e).symm⟩
theorem lk_str {ps : List PG} {ks : List LK} (h : netOk ps ks = true) {j : Nat} (hj : j < ks.length) : strOk (ks.getD j default).tk = true := by
  have := (netOk_w h).lk j hj
  unfold linkOk at this
  rw [Bool.and_eq_true] at this
  exact this.2
end
def szSt (n : Int) (xs : List AT) (qs hs : List (List Int)) : Int :=
  if szT n xs.length (gtot aL xs) < 0 then -1 else if szSS (szT n xs.length (gtot aL xs)) qs < 0 then -1 else szSS (szSS (szT n xs.length (gtot aL xs)) qs) hs
theorem szSS_lt {n : Int} {rs : List (List Int)} (h : szSS n rs < 0) : szSS n rs = -1 := by
  unfold szSS at h ⊢
  split at h
  · rename_i hh; rw [if_pos hh]
  · omega
theorem szSS_ok {n : Int} {rs : List (List Int)} (h : ¬ szSS n rs < 0) : ((rs.length + tot rs : Nat) : Int) + szSS n rs = n := by
  unfold szSS at h ⊢
  split at h
  · omega
  · rename_i hh; rw [if_neg hh]; omega
theorem szSt_ok {n : Int} {xs : List AT} {qs hs : List (List Int)} (h : ¬ szSt n xs qs hs < 0) : ((xs.length + gtot aL xs + qs.length + tot qs + hs.length + tot hs : Nat) : Int) + szSt n xs qs hs = n := by
  unfold szSt at h ⊢
  split at h
  · omega
  · rename_i h1
    split at h
    · omega
    · rename_i h2
      rw [if_neg h1, if_neg h2]
      have e1 := szT_ok h1
      have e2 := szSS_ok h2
      have e3 := szSS_ok h
      omega
end Go.Proofs.Yticgaflgbljhlaa.Ab
