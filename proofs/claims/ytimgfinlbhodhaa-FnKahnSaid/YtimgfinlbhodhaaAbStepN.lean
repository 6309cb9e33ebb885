/- A step of a process within a network: plain law, and blocks of which one cell leads to another block. -/
import Derived.Test.YtimgfinlbhodhaaAbMono
namespace Go.Proofs.Ytimgfinlbhodhaa.Ab
open Go
set_option linter.unusedVariables false
set_option linter.unusedSimpArgs false
theorem refLL_set {n k : Nat} {es : List (List A)} {c : List A} (h : pureLL es = true) (hc : refL n c = true) : refLL n (es.set k c) = true := by
 rw [refLL_map, List.all_eq_true]
 intro e he
 rcases List.mem_or_eq_of_mem_set he with h1 | h1
 ·have := pureLL_ref (n := n) h
  rw [refLL_map, List.all_eq_true] at this
  exact this e h1
 ·rw [h1]; exact hc
theorem rnLL_set {sel : List Nat} {k : Nat} {es : List (List A)} {c : List A} (h : pureLL es = true) : rnLL sel (es.set k c) = es.set k (rnL sel c) := by
 rw [rnLL_map, List.map_set, ← rnLL_map, rnLL_pure h]
theorem mpLL_set {r : Nat → Nat} {k : Nat} {es : List (List A)} {c : List A} (h : pureLL es = true) : mpLL r (es.set k c) = es.set k (mpL r c) := by
 rw [mpLL_map, List.map_set, ← mpLL_map, mpLL_pure h]
section
variable {c : Cx} {k : List It} {st : St}
theorem G.unfocusQ (m q n : Nat) {outs : List (List Int)} {r : List Int} {len : Nat} (hm : st.heap[m]? = some (some (1, (outs.map ovL).set q [.sl n 1 len]))) (hn : st.heap[n]? = some (some (1, r.map iv))) (hne : m ≠ n) (hl : 1 + len = r.length) (hq : q < outs.length)
  (h : G c k (withH st ((st.heap.set n none).set m (some (1, (outs.set q (r.drop 1)).map ovL))))) : G c k st := by
 refine G.unfocus m q 0 n (e := [.sl n 1 len]) hm (by simp [hq]) rfl hn hne (by simp; omega) (pureLL_iv r) ?_
 have e1 : (((r.map iv).drop 1).take len) = (r.drop 1).map iv := by
  rw [List.take_of_length_le (by simp; omega), List.map_drop]
 rw [e1]
 have e2 : ((outs.map ovL).set q [A.sl n 1 len]).set q ([A.sl n 1 len].set 0 (.row true 1 ((r.drop 1).map iv))) = (outs.set q (r.drop 1)).map ovL := by
  rw [List.set_set, List.map_set]; rfl
 rw [e2]
 exact h
end
section
variable {ps : List PG} {ks : List LK} {xs : List AT} {qs hs : List (List Int)} {t : Int} {k : Nat}
def opK (ps : List PG) (xs : List AT) (k : Nat) : I4 := (ps.getD k default).l.getD (xs.getD k default).pc.toNat default
def tokK (ps : List PG) (ks : List LK) (xs : List AT) (qs : List (List Int)) (k : Nat) : Int := if (wAtK ps xs k).1 = 2 then (qs.getD (lnkK ps ks xs k).toNat default).getD 0 default else 0
def wrK (ps : List PG) (xs : List AT) (k : Nat) : Int := stepW (opK ps xs k) (xs.getD k default).rs
def newA (ps : List PG) (ks : List LK) (xs : List AT) (qs : List (List Int)) (k : Nat) : AT := ⟨stepPc (opK ps xs k) (xs.getD k default).pc (xs.getD k default).rs, stepRs (opK ps xs k) (xs.getD k default).rs (tokK ps ks xs qs k)⟩
def xsK (ps : List PG) (ks : List LK) (xs : List AT) (qs : List (List Int)) (k : Nat) : List AT := xs.set k (newA ps ks xs qs k)
def qsK (ps : List PG) (ks : List LK) (xs : List AT) (qs : List (List Int)) (k : Nat) : List (List Int) :=
 if (wAtK ps xs k).1 = 2 then qs.set (lnkK ps ks xs k).toNat ((qs.getD (lnkK ps ks xs k).toNat default).drop 1) else if (wAtK ps xs k).1 = 3 then qs.set (lnkK ps ks xs k).toNat (qs.getD (lnkK ps ks xs k).toNat default ++ [wrK ps xs k]) else qs
def hsK (ps : List PG) (ks : List LK) (xs : List AT) (hs : List (List Int)) (k : Nat) : List (List Int) :=
 if (wAtK ps xs k).1 = 3 then hs.set (lnkK ps ks xs k).toNat (hs.getD (lnkK ps ks xs k).toNat default ++ [wrK ps xs k]) else hs
theorem xsK_len : (xsK ps ks xs qs k).length = xs.length := by simp [xsK]
theorem qsK_len : (qsK ps ks xs qs k).length = qs.length := by
 unfold qsK
 split
 ·simp
 ·split <;> simp
theorem hsK_len : (hsK ps ks xs hs k).length = hs.length := by unfold hsK; split <;> simp
theorem st_of (w : StW ps ks xs qs hs t) : stOk ps ks xs qs hs t = true := by
 simp only [stOk, Bool.and_eq_true, all_range]
 refine ⟨⟨?_, w.act⟩, w.lnk⟩
 simp only [stBig, Bool.and_eq_true, beq_iff_eq, inR, decide_eq_true_eq]
 have := w.xl
 have := w.ql
 have := w.hl
 exact ⟨⟨⟨⟨w.net, by omega⟩, by omega⟩, by omega⟩, w.t0, w.t1⟩
theorem can_w (h : canK ps ks xs qs hs t k = true) : t < 20000 ∧ ((wAtK ps xs k).1 = 1 ∨ ((wAtK ps xs k).1 = 2 ∧ 0 < (qs.getD (lnkK ps ks xs k).toNat default).length) ∨ ((wAtK ps xs k).1 = 3 ∧ (hs.getD (lnkK ps ks xs k).toNat default).length < 400)) := by
 have ht : t < 20000 := by
  apply Classical.byContradiction
  intro hn
  rw [can_t (by omega)] at h
  cases h
 refine ⟨ht, ?_⟩
 rcases w_cases (ps := ps) (xs := xs) k with c0 | c0 | c0 | c0
 ·rw [can_0 c0] at h; cases h
 ·exact .inl c0
 ·rw [can_2 c0 ht, decide_eq_true_eq] at h
  exact .inr (.inl ⟨c0, by omega⟩)
 ·rw [can_3 c0 ht, decide_eq_true_eq] at h
  exact .inr (.inr ⟨c0, by omega⟩)
theorem k_reg (w : StW ps ks xs qs hs t) (hk : k < ps.length) (hn : ¬ (wAtK ps xs k).1 = 0) : (xs.getD k default).pc < ((ps.getD k default).l.length : Int) ∧ RegOk (opK ps xs k) (xs.getD k default).rs ∧ opsOk (ps.getD k default).i (ps.getD k default).o (ps.getD k default).l.length (opK ps xs k) = true := by
 have hpc := st_pc w hk
 have hlt := wantK_lt hpc.2 hn
 have := regOk_of (pg_ok w.net hk) (w.act k hk) hpc.1 hlt
 exact ⟨hlt, this.1, this.2⟩
theorem tokK_ok (w : StW ps ks xs qs hs t) (hk : k < ps.length) (hc : canK ps ks xs qs hs t k = true) : -999999 ≤ tokK ps ks xs qs k ∧ tokK ps ks xs qs k ≤ 999999 := by
 unfold tokK
 split
 ·rename_i h2
  obtain ⟨_, h3⟩ := can_w hc
  have hl : 0 < (qs.getD (lnkK ps ks xs k).toNat default).length := by
   rcases h3 with h3 | h3 | h3
   ·omega
   ·exact h3.2
   ·omega
  obtain ⟨_, _, g1, g2⟩ := want_two w hk h2
  rw [← lnk_2 (ks := ks) h2] at g1 g2
  have hs := (link_of (w.lnk _ g2)).1
  simp only [strOk, Bool.and_eq_true, List.all_eq_true] at hs
  exact tok_iff.1 (hs.1 _ (getD_mem hl))
 ·omega
theorem wrK_tok (w : StW ps ks xs qs hs t) (hk : k < ps.length) (hn : ¬ (wAtK ps xs k).1 = 0) : tok (wrK ps xs k) = true := by
 have h := (k_reg w hk hn).2.1
 unfold wrK stepW
 split
 ·have h0 := h.a0
  have h1 := h.a1
  have : rg (xs.getD k default).rs (opK ps xs k).2.1 ∈ (xs.getD k default).rs := by unfold rg; exact getD_mem (by omega)
  exact tok_iff.2 (h.t _ this)
 ·decide
theorem endB_sfx {a b : List Int} : endB a b = true ↔ a <:+ b := by
 unfold endB
 simp only [Bool.and_eq_true, decide_eq_true_eq]
 constructor
 ·rintro ⟨h1, h2⟩; rw [← h2]; exact List.drop_suffix _ _
 ·intro h; exact ⟨h.length_le, (List.suffix_iff_eq_drop.1 h).symm⟩
theorem link_of2 {x : LK} {q h : List Int} (h1 : strOk q = true) (h2 : strOk h = true) (h3 : x.tk <+: h) (h4 : q <:+ h) (h5 : x.fr = -1 → (h.length : Int) = (x.tk.length : Int)) (h6 : x.to = -1 → (h.length : Int) = (q.length : Int)) : linkSt x q h = true := by
 unfold linkSt
 rw [h1, h2, begB_pfx.2 h3, endB_sfx.2 h4]
 simp only [Bool.true_and, Bool.not_eq_true', Bool.or_eq_false_iff, Bool.and_eq_false_imp, beq_iff_eq, Bool.not_eq_false']
 exact ⟨h5, h6⟩
theorem str_snoc2 {a : List Int} {v : Int} (h : strOk a = true) (hv : tok v = true) (hl : a.length < 400) : strOk (a ++ [v]) = true := by
 simp only [strOk, Bool.and_eq_true, decide_eq_true_eq, List.all_append, List.length_append, List.all_cons, List.all_nil, List.length_cons, List.length_nil] at h ⊢
 refine ⟨⟨h.1, hv, trivial⟩, by omega⟩
theorem step_st (w : StW ps ks xs qs hs t) (hk : k < ps.length) (hc : canK ps ks xs qs hs t k = true) : StW ps ks (xsK ps ks xs qs k) (qsK ps ks xs qs k) (hsK ps ks xs hs k) (t + 1) := by
 obtain ⟨ht, hw⟩ := can_w hc
 have hn : ¬ (wAtK ps xs k).1 = 0 := by omega
 obtain ⟨hlt, hreg, hop⟩ := k_reg w hk hn
 have hpc := st_pc w hk
 have ht0 := w.t0
 refine ⟨w.net, by rw [xsK_len]; exact w.xl, by rw [qsK_len]; exact w.ql, by rw [hsK_len]; exact w.hl, by omega, by omega, fun j hj => ?_, fun j hj => ?_⟩
 ·unfold xsK
  rw [gset_any]
  split
  ·rename_i h
   rw [← h.1]
   have h4 : (xs.getD k default).rs.length = 4 := actOk_len (w.act k hk)
   exact stepRs_ok hreg hop h4 (fun _ => tokK_ok w hk hc) hpc.1 hlt
  ·exact w.act j hj
 ·obtain ⟨q1, q2, q3, q4, q5, q6⟩ := link_of (w.lnk j hj)
  rw [begB_pfx] at q3
  rw [endB_sfx] at q4
  have hql := w.ql
  have hhl := w.hl
  rcases hw with h1 | ⟨h2, hl⟩ | ⟨h3, hl⟩
  ·have e1 : qsK ps ks xs qs k = qs := by unfold qsK; rw [if_neg (by omega), if_neg (by omega)]
   have e2 : hsK ps ks xs hs k = hs := by unfold hsK; rw [if_neg (by omega)]
   rw [e1, e2]
   exact w.lnk j hj
  ·have e2 : hsK ps ks xs hs k = hs := by unfold hsK; rw [if_neg (by omega)]
   rw [e2]
   unfold qsK
   rw [if_pos h2, gset_any]
   split
   ·rename_i h
    obtain ⟨_, _, g1, g2⟩ := want_two w hk h2
    have ha := onlyAt_at g1
    rw [lnk_2 (ks := ks) h2] at h
    have hto : (ks.getD j default).to = (k : Int) := by
     have := ha.2.1
     rw [h.1] at this
     simp only [isTo, Bool.and_eq_true, beq_iff_eq] at this
     exact this.1
    rw [lnk_2 (ks := ks) h2, h.1]
    refine link_of2 ?_ q2 q3 ((List.drop_suffix _ _).trans q4) q5 (fun h => by omega)
    simp only [strOk, Bool.and_eq_true, decide_eq_true_eq, List.all_eq_true, List.length_drop] at q1 ⊢
    exact ⟨fun y hy => q1.1 y (List.mem_of_mem_drop hy), by omega⟩
   ·exact w.lnk j hj
  ·have hv := wrK_tok w hk hn
   unfold qsK hsK
   rw [if_neg (by omega), if_pos h3, if_pos h3, gset_any, gset_any]
   obtain ⟨_, _, g1, g2⟩ := want_three w hk h3
   rw [lnk_3 (ks := ks) h3] at hl ⊢
   by_cases h : (onlyAt (isFr k (wAtK ps xs k).2) ks).toNat = j
   ·rw [h] at hl ⊢
    have ha := onlyAt_at g1
    have hfr : (ks.getD j default).fr = (k : Int) := by
     have := ha.2.1
     rw [h] at this
     simp only [isFr, Bool.and_eq_true, beq_iff_eq] at this
     exact this.1
    rw [if_pos ⟨rfl, by omega⟩, if_pos ⟨rfl, by omega⟩]
    have hle := q4.length_le
    obtain ⟨u, hu⟩ := q4
    refine link_of2 (str_snoc2 q1 hv (by omega)) (str_snoc2 q2 hv hl) (q3.trans (List.prefix_append _ _)) ⟨u, by rw [← List.append_assoc, hu]⟩ (fun h => by omega) (fun h => ?_)
    have := q6 h
    simp only [List.length_append]
    omega
   ·rw [if_neg (fun hh => h hh.1), if_neg (fun hh => h hh.1)]
    exact w.lnk j hj
end
end Go.Proofs.Ytimgfinlbhodhaa.Ab
