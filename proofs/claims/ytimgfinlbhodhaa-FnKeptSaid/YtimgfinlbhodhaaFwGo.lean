/- Walks of functions of the program, and the plain definitions. -/
import Derived.Test.YtimgfinlbhodhaaAbRunT
import Derived.Test.YtimgfinlbhodhaaAbGen2
import Derived.Test.YtimgfinlbhodhaaAbMono2
import Derived.Test.YtimgfinlbhodhaaFwGd
import Derived.Test.YtimgfinlbhodhaaAbHand
import Derived.Test.YtimgfinlbhodhaaAbObs
namespace Go.Proofs.Ytimgfinlbhodhaa.Ab
open Go
set_option linter.unusedVariables false
set_option linter.unusedSimpArgs false
section
variable {l : List I4} {ins less : List (List Int)} {s u : PS} {n m : Nat}
inductive GoTo (l : List I4) (ins : List (List Int)) : PS → Nat → PS → Prop
 | nil (s : PS) : GoTo l ins s 0 s
 | cons {s u : PS} {n : Nat} (hs : stopP l ins s = false) (h : GoTo l ins (nextP l ins s) n u) : GoTo l ins s (n + 1) u
theorem GoTo.snoc (h : GoTo l ins s n u) (hs : stopP l ins u = false) : GoTo l ins s (n + 1) (nextP l ins u) := by
 induction h with
 | nil => exact .cons hs (.nil _)
 | cons h1 _ ih => exact .cons h1 (ih hs)
theorem GoTo.go (h : GoTo l ins s n u) : ∀ m, goP l ins (n + m) s = goP l ins m u := by
 induction h with
 | nil => intro m; rw [Nat.zero_add]
 | cons h1 _ ih => intro m; rw [Nat.add_right_comm, goP_succ h1]; exact ih m
theorem GoTo.short (h : GoTo l ins s n u) : ∀ f, f < n → (goP l ins f s).2.1 = 1 := by
 induction h with
 | nil => intro f hf; omega
 | cons h1 _ ih =>
  intro f hf
  cases f with
  | zero => rw [goP_zero h1]
  | succ f => rw [goP_succ h1]; exact ih f (by omega)
theorem GoTo.more (h : GoTo l less s n u) (hl : ∀ k : Nat, less.getD k default <+: ins.getD k default) (hu : UB less s) : GoTo l ins s n u ∧ UB less u := by
 induction h with
 | nil => exact ⟨.nil _, hu⟩
 | cons h1 _ ih =>
  obtain ⟨a1, a2, a3⟩ := less_next hl hu h1
  obtain ⟨b1, b2⟩ := ih a3
  rw [a2] at b1
  exact ⟨.cons a1 b1, b2⟩
theorem GoTo.used (h : GoTo l ins s n u) (k : Nat) : s.used.getD k default ≤ u.used.getD k default := by
 induction h with
 | nil => exact Int.le_refl _
 | cons h1 _ ih => exact Int.le_trans (next_used _ k) ih
theorem GoTo.fewer (h : GoTo l ins s n u) (hl : ∀ k : Nat, less.getD k default <+: ins.getD k default) (hlen : s.used.length = less.length) (h0 : ∀ k : Nat, 0 ≤ s.used.getD k default) (hu : ∀ k : Nat, u.used.getD k default ≤ ((less.getD k default).length : Int)) (hp : ∀ s : PS, s.used.length = less.length → (wP l s).1 = 2 → stopP l ins s = false → (wP l s).2.toNat < less.length) : GoTo l less s n u := by
 induction h with
 | nil => exact .nil _
 | @cons s u n h1 h2 ih =>
  obtain ⟨n0, n2, n3⟩ := stopP_false h1
  have hus := h2.used
  have hst : stopP l less s = false := by
   unfold stopP
   simp only [Bool.or_eq_false_iff, beq_eq_false_iff_ne, ne_eq, Bool.and_eq_false_imp, beq_iff_eq]
   refine ⟨⟨n0, fun hw => ?_⟩, fun hw => ?_⟩
   ·have hlt := hp s hlen hw h1
    have e1 := hus (wP l s).2.toNat
    simp only [nextP, if_pos hw] at e1
    rw [gset_any, if_pos ⟨rfl, by omega⟩] at e1
    have e2 := hu (wP l s).2.toNat
    omega
   ·have := n3 hw; omega
  have htok : tokP l less s = tokP l ins s := by
   unfold tokP
   split
   ·rename_i hw
    have hlt := hp s hlen hw h1
    have e1 := hus (wP l s).2.toNat
    simp only [nextP, if_pos hw] at e1
    rw [gset_any, if_pos ⟨rfl, by omega⟩] at e1
    have e2 := hu (wP l s).2.toNat
    have e3 := h0 (wP l s).2.toNat
    obtain ⟨t, ht⟩ := hl (wP l s).2.toNat
    have hlt2 : (s.used.getD (wP l s).2.toNat default).toNat < (less.getD (wP l s).2.toNat default).length := by omega
    rw [← ht]
    simp only [List.getD_eq_getElem?_getD (l := less.getD _ _ ++ t), List.getElem?_append_left hlt2]
    rw [List.getD_eq_getElem?_getD (l := less.getD _ _)]
   ·rfl
  have hn : nextP l less s = nextP l ins s := by unfold nextP; rw [htok]
  refine .cons hst ?_
  rw [hn]
  refine ih (by simp only [nextP]; split <;> simp [hlen]) (fun k => Int.le_trans (h0 k) (next_used _ k)) hu
end
section
variable {ps : List PG} {ks : List LK} {s : SX} {k : Nat}
def lTo (ks : List LK) (k p : Nat) : Nat := (onlyAt (isTo k p) ks).toNat
def lFr (ks : List LK) (k q : Nat) : Nat := (onlyAt (isFr k q) ks).toNat
theorem lTo_at (hn : netOk ps ks = true) (hk : k < ps.length) {p : Nat} (hp : (p : Int) < (ps.getD k default).i) : lTo ks k p < ks.length ∧ (ks.getD (lTo ks k p) default).to = (k : Int) ∧ (ks.getD (lTo ks k p) default).ip = (p : Int) := by
 obtain ⟨a1, a2, _⟩ := onlyAt_at ((netOk_w hn).to k hk p hp)
 simp only [isTo, Bool.and_eq_true, beq_iff_eq] at a2
 exact ⟨a1, a2.1, a2.2⟩
theorem lFr_at (hn : netOk ps ks = true) (hk : k < ps.length) {q : Nat} (hq : (q : Int) < (ps.getD k default).o) : lFr ks k q < ks.length ∧ (ks.getD (lFr ks k q) default).fr = (k : Int) ∧ (ks.getD (lFr ks k q) default).ou = (q : Int) := by
 obtain ⟨a1, a2, _⟩ := onlyAt_at ((netOk_w hn).fr k hk q hq)
 simp only [isFr, Bool.and_eq_true, beq_iff_eq] at a2
 exact ⟨a1, a2.1, a2.2⟩
def rdL (s : SX) (L : Nat) : Int := ((s.2.2.1.getD L default).length : Int) - ((s.2.1.getD L default).length : Int)
def snL (ks : List LK) (s : SX) (L : Nat) : List Int := (s.2.2.1.getD L default).drop (ks.getD L default).tk.length
def psK (ps : List PG) (ks : List LK) (s : SX) (k : Nat) : PS := ⟨(s.1.getD k default).pc, (s.1.getD k default).rs, (List.range (ps.getD k default).o.toNat).map (fun q => snL ks s (lFr ks k q)), (List.range (ps.getD k default).i.toNat).map (fun p => rdL s (lTo ks k p))⟩
theorem rng_get {α : Type} [Inhabited α] {n k : Nat} (f : Nat → α) (h : k < n) : ((List.range n).map f).getD k default = f k := by
 rw [List.getD_eq_getElem?_getD, List.getElem?_map, List.getElem?_range h]; rfl
theorem rng_set {α : Type} [Inhabited α] {n k : Nat} {f g : Nat → α} {x : α} (hk : k < n) (h : ∀ j < n, g j = if j = k then x else f j) : (List.range n).map g = ((List.range n).map f).set k x := by
 refine List.ext_getElem (by simp) fun j h1 h2 => ?_
 simp only [List.length_map, List.length_range] at h1
 rw [List.getElem_set]
 simp only [List.getElem_map, List.getElem_range]
 rw [h j h1]
 by_cases e : j = k
 ·rw [if_pos e, if_pos e.symm]
 ·rw [if_neg e, if_neg (fun h => e h.symm)]
theorem rng_same {α : Type} {n : Nat} {f g : Nat → α} (h : ∀ j < n, g j = f j) : (List.range n).map g = (List.range n).map f := List.map_congr_left fun j hj => h j (List.mem_range.1 hj)
theorem w_eq (k : Nat) : wP (ps.getD k default).l (psK ps ks s k) = wAtK ps s.1 k := rfl
structure StepW (ps : List PG) (ks : List LK) (s : SX) (k : Nat) : Prop where
 stop : stopP (ps.getD k default).l (insK ps ks s.2.2.1 k) (psK ps ks s k) = false
 next : psK ps ks (nextS ps ks s k) k = nextP (ps.getD k default).l (insK ps ks s.2.2.1 k) (psK ps ks s k)
 other : ∀ j < ps.length, j ≠ k → psK ps ks (nextS ps ks s k) j = psK ps ks s j
 le : LeL s.2.2.1 (nextS ps ks s k).2.2.1
theorem xs_at (k j : Nat) (hk : k < s.1.length) : (xsK ps ks s.1 s.2.1 k).getD j default = if k = j then newA ps ks s.1 s.2.1 k else s.1.getD j default := by
 unfold xsK
 rw [gset_any]
 by_cases e : k = j
 ·rw [if_pos ⟨e, hk⟩, if_pos e]
 ·rw [if_neg (fun h => e h.1), if_neg e]
theorem insK_at (hk : k < ps.length) {p : Nat} (hp : (p : Int) < (ps.getD k default).i) (hs : List (List Int)) : (insK ps ks hs k).getD p default = hs.getD (lTo ks k p) default := by
 unfold insK insN
 rw [rng_get _ (by omega)]
 rfl
theorem step_w (hok : okS ps ks s) (hk : k < ps.length) (hc : canS ps ks s k = true) : StepW ps ks s k := by
 have w := stOk_w hok
 have hn := w.net
 have hpb := pg_bd (netOk_w hn).pg hk
 have hql := w.ql
 have hhl := w.hl
 have hxl := w.xl
 obtain ⟨ht, hw⟩ := can_w hc
 have hx : ∀ j, (nextS ps ks s k).1.getD j default = if k = j then newA ps ks s.1 s.2.1 k else s.1.getD j default := fun j => xs_at k j (by omega)
 rcases hw with h1 | ⟨h2, hl⟩ | ⟨h3, hl⟩
 ·have e1 : (nextS ps ks s k).2.1 = s.2.1 := by show qsK ps ks s.1 s.2.1 k = _; unfold qsK; rw [if_neg (by omega), if_neg (by omega)]
  have e2 : (nextS ps ks s k).2.2.1 = s.2.2.1 := by show hsK ps ks s.1 s.2.2.1 k = _; unfold hsK; rw [if_neg (by omega)]
  have e3 : ∀ L, rdL (nextS ps ks s k) L = rdL s L := fun L => by unfold rdL; rw [e1, e2]
  have e4 : ∀ L, snL ks (nextS ps ks s k) L = snL ks s L := fun L => by unfold snL; rw [e2]
  have ht0 : tokK ps ks s.1 s.2.1 k = 0 := by unfold tokK; rw [if_neg (by omega)]
  refine ⟨?_, ?_, fun j hj hne => ?_, by rw [e2]; exact LeL.refl _⟩
  ·unfold stopP; rw [w_eq, h1]; rfl
  ·unfold psK nextP
   simp only [e3, e4, hx, if_true]
   have hwP : (wP (ps.getD k default).l (psK ps ks s k)).1 = 1 := h1
   unfold psK at hwP
   rw [if_neg (by rw [hwP]; decide), if_neg (by rw [hwP]; decide)]
   unfold newA
   rw [ht0]
   have : tokP (ps.getD k default).l (insK ps ks s.2.2.1 k) (psK ps ks s k) = 0 := by unfold tokP; rw [if_neg (by rw [w_eq, h1]; decide)]
   unfold psK at this
   rw [this]
   rfl
  ·unfold psK
   simp only [e3, e4, hx]
   rw [if_neg (fun h => hne h.symm)]
 ·obtain ⟨p0, p1, g1, g2⟩ := want_two w hk h2
  obtain ⟨p, hp⟩ : ∃ p : Nat, (wAtK ps s.1 k).2 = (p : Int) := ⟨(wAtK ps s.1 k).2.toNat, by omega⟩
  have hL : lnkK ps ks s.1 k = onlyAt (isTo k (p : Int)) ks := by rw [lnk_2 h2, hp]
  have hLn : (lnkK ps ks s.1 k).toNat = lTo ks k p := by rw [hL]; rfl
  rw [hp] at p1
  obtain ⟨a1, a2, a3⟩ := lTo_at hn hk p1
  rw [hLn] at hl
  have e2 : (nextS ps ks s k).2.2.1 = s.2.2.1 := by show hsK ps ks s.1 s.2.2.1 k = _; unfold hsK; rw [if_neg (by omega)]
  have e1 : (nextS ps ks s k).2.1 = s.2.1.set (lTo ks k p) ((s.2.1.getD (lTo ks k p) default).drop 1) := by show qsK ps ks s.1 s.2.1 k = _; unfold qsK; rw [if_pos h2, hLn]
  have e3 : ∀ L, rdL (nextS ps ks s k) L = if L = lTo ks k p then rdL s L + 1 else rdL s L := fun L => by
   unfold rdL
   rw [e1, e2, gset_any]
   by_cases e : L = lTo ks k p
   ·rw [if_pos e, if_pos ⟨e.symm, by omega⟩, e, List.length_drop]; omega
   ·rw [if_neg e, if_neg (fun h => e h.1.symm)]
  have e4 : ∀ L, snL ks (nextS ps ks s k) L = snL ks s L := fun L => by unfold snL; rw [e2]
  obtain ⟨_, _, _, q4, _, _⟩ := link_of (w.lnk _ a1)
  rw [endB_sfx] at q4
  obtain ⟨v, hv⟩ := q4
  have hvl : v.length + (s.2.1.getD (lTo ks k p) default).length = (s.2.2.1.getD (lTo ks k p) default).length := by rw [← hv, List.length_append]
  have hrd : rdL s (lTo ks k p) = (v.length : Int) := by unfold rdL; omega
  have hwP : (wP (ps.getD k default).l (psK ps ks s k)).1 = 2 := h2
  have hwQ : (wP (ps.getD k default).l (psK ps ks s k)).2.toNat = p := by rw [w_eq, hp]; rfl
  have hpi : p < (ps.getD k default).i.toNat := by omega
  have hus : (psK ps ks s k).used.getD p default = (v.length : Int) := by
   show ((List.range (ps.getD k default).i.toNat).map (fun p => rdL s (lTo ks k p))).getD p default = _
   rw [rng_get _ hpi, hrd]
  have hin : (insK ps ks s.2.2.1 k).getD p default = s.2.2.1.getD (lTo ks k p) default := insK_at hk p1 _
  have htk : tokK ps ks s.1 s.2.1 k = tokP (ps.getD k default).l (insK ps ks s.2.2.1 k) (psK ps ks s k) := by
   unfold tokK tokP
   rw [if_pos h2, if_pos hwP, hwQ, hus, hin, hLn, Int.toNat_natCast]
   have : (s.2.2.1.getD (lTo ks k p) default).getD v.length default = (v ++ s.2.1.getD (lTo ks k p) default).getD v.length default := by rw [hv]
   have e5 : (v ++ s.2.1.getD (lTo ks k p) default).getD v.length default = (s.2.1.getD (lTo ks k p) default).getD 0 default := by
    rw [List.getD_eq_getElem?_getD, List.getElem?_append_right (Nat.le_refl _), Nat.sub_self, ← List.getD_eq_getElem?_getD]
   rw [this, e5]
  refine ⟨?_, ?_, fun j hj hne => ?_, by rw [e2]; exact LeL.refl _⟩
  ·rw [stopP_two (p := (wP (ps.getD k default).l (psK ps ks s k)).2) hwP rfl, hwQ, hus, hin]
   exact beq_eq_false_iff_ne.2 (by omega)
  ·show PS.mk _ _ _ _ = PS.mk _ _ _ _
   rw [if_neg (by rw [hwP]; decide), if_pos hwP, hwQ, hus]
   simp only [e4, hx, if_true]
   unfold newA
   rw [htk]
   congr 1
   refine rng_set hpi fun j hj => ?_
   rw [e3]
   by_cases e : j = p
   ·rw [if_pos e, e, if_pos rfl, hrd]
   ·rw [if_neg e, if_neg (fun h => ?_)]
    have b := lTo_at hn hk (p := j) (by omega)
    rw [h, a3] at b
    omega
  ·show PS.mk _ _ _ _ = PS.mk _ _ _ _
   simp only [e4, hx]
   rw [if_neg (fun h => hne h.symm)]
   congr 1
   refine rng_same fun q hq => ?_
   rw [e3, if_neg (fun h => ?_)]
   have hpj := pg_bd (netOk_w hn).pg hj
   have b := lTo_at hn hj (p := q) (by omega)
   rw [h, a2] at b
   omega
 ·obtain ⟨p0, p1, g1, g2⟩ := want_three w hk h3
  obtain ⟨p, hp⟩ : ∃ p : Nat, (wAtK ps s.1 k).2 = (p : Int) := ⟨(wAtK ps s.1 k).2.toNat, by omega⟩
  have hLn : (lnkK ps ks s.1 k).toNat = lFr ks k p := by rw [lnk_3 h3, hp]; rfl
  rw [hp] at p1
  obtain ⟨a1, a2, a3⟩ := lFr_at hn hk p1
  rw [hLn] at hl
  have e1 : (nextS ps ks s k).2.1 = s.2.1.set (lFr ks k p) (s.2.1.getD (lFr ks k p) default ++ [wrK ps s.1 k]) := by show qsK ps ks s.1 s.2.1 k = _; unfold qsK; rw [if_neg (by omega), if_pos h3, hLn]
  have e2 : (nextS ps ks s k).2.2.1 = s.2.2.1.set (lFr ks k p) (s.2.2.1.getD (lFr ks k p) default ++ [wrK ps s.1 k]) := by show hsK ps ks s.1 s.2.2.1 k = _; unfold hsK; rw [if_pos h3, hLn]
  have e3 : ∀ L, rdL (nextS ps ks s k) L = rdL s L := fun L => by
   unfold rdL
   rw [e1, e2, gset_any, gset_any]
   by_cases e : lFr ks k p = L
   ·rw [if_pos ⟨e, by omega⟩, if_pos ⟨e, by omega⟩, e, List.length_append, List.length_append]
    simp only [List.length_cons, List.length_nil]
    omega
   ·rw [if_neg (fun h => e h.1), if_neg (fun h => e h.1)]
  obtain ⟨_, _, q3, _, _, _⟩ := link_of (w.lnk _ a1)
  rw [begB_pfx] at q3
  have hle := q3.length_le
  have e4 : ∀ L, snL ks (nextS ps ks s k) L = if L = lFr ks k p then snL ks s L ++ [wrK ps s.1 k] else snL ks s L := fun L => by
   unfold snL
   rw [e2, gset_any]
   by_cases e : L = lFr ks k p
   ·rw [if_pos e, if_pos ⟨e.symm, by omega⟩, e, List.drop_append_of_le_length hle]
   ·rw [if_neg e, if_neg (fun h => e h.1.symm)]
  have hwP : (wP (ps.getD k default).l (psK ps ks s k)).1 = 3 := h3
  have hwQ : (wP (ps.getD k default).l (psK ps ks s k)).2.toNat = p := by rw [w_eq, hp]; rfl
  have hpo : p < (ps.getD k default).o.toNat := by omega
  have hou : (psK ps ks s k).outs.getD p default = snL ks s (lFr ks k p) := by
   show ((List.range (ps.getD k default).o.toNat).map (fun q => snL ks s (lFr ks k q))).getD p default = _
   rw [rng_get _ hpo]
  have htk : tokK ps ks s.1 s.2.1 k = tokP (ps.getD k default).l (insK ps ks s.2.2.1 k) (psK ps ks s k) := by
   unfold tokK tokP
   rw [if_neg (by omega), if_neg (by rw [hwP]; decide)]
  refine ⟨?_, ?_, fun j hj hne => ?_, ?_⟩
  ·rw [stopP_three (p := (wP (ps.getD k default).l (psK ps ks s k)).2) hwP rfl, hwQ, hou]
   have : (snL ks s (lFr ks k p)).length ≤ (s.2.2.1.getD (lFr ks k p) default).length := by unfold snL; rw [List.length_drop]; omega
   exact beq_eq_false_iff_ne.2 (by omega)
  ·show PS.mk _ _ _ _ = PS.mk _ _ _ _
   rw [if_pos hwP, if_neg (by rw [hwP]; decide), hwQ, hou]
   simp only [e3, hx, if_true]
   unfold newA
   rw [htk]
   congr 1
   refine rng_set hpo fun j hj => ?_
   rw [e4]
   by_cases e : j = p
   ·rw [if_pos e, e, if_pos rfl]; rfl
   ·rw [if_neg e, if_neg (fun h => ?_)]
    have b := lFr_at hn hk (q := j) (by omega)
    rw [h, a3] at b
    omega
  ·show PS.mk _ _ _ _ = PS.mk _ _ _ _
   simp only [e3, hx]
   rw [if_neg (fun h => hne h.symm)]
   congr 1
   refine rng_same fun q hq => ?_
   rw [e4, if_neg (fun h => ?_)]
   have hpj := pg_bd (netOk_w hn).pg hj
   have b := lFr_at hn hj (q := q) (by omega)
   rw [h, a2] at b
   omega
  ·rw [e2]
   refine ⟨by simp, fun L => ?_⟩
   rw [gset_any]
   split
   ·rename_i h; rw [← h.1]; exact List.prefix_append _ _
   ·exact List.prefix_refl _
end
end Go.Proofs.Ytimgfinlbhodhaa.Ab
namespace Go.Proofs.Ytimgfinlbhodhaa.Ab
open Go
set_option linter.unusedVariables false
set_option linter.unusedSimpArgs false
def totJ (js : Nat → Nat) : Nat → Nat
 | 0 => 0
 | n + 1 => totJ js n + js n
theorem totJ_set (js : Nat → Nat) (k : Nat) : ∀ n, totJ (fun j => if j = k then js j + 1 else js j) n = totJ js n + if k < n then 1 else 0
 | 0 => by simp [totJ]
 | n + 1 => by
  simp only [totJ]
  rw [totJ_set js k n]
  by_cases e : n = k
  ·subst e; simp; omega
  ·rw [if_neg e]
   by_cases h : k < n
   ·rw [if_pos h, if_pos (by omega)]; omega
   ·rw [if_neg h, if_neg (by omega)]; omega
theorem totJ_zero : ∀ n, totJ (fun _ => 0) n = 0
 | 0 => rfl
 | n + 1 => by simp [totJ, totJ_zero n]
section
variable {ps : List PG} {ks : List LK} {s u : SX} {k n : Nat} {js : Nat → Nat} {H : List (List Int)} {rounds : Int}
def s0 (ps : List PG) (ks : List LK) : SX := (actN ps.length, tkL ks, tkL ks, 0)
theorem s0_ok (hn : netOk ps ks = true) : okS ps ks (s0 ps ks) := by
 refine st_of ⟨hn, actN_len _, tkL_len _, tkL_len _, Int.le_refl _, by show (0 : Int) ≤ 20000; decide, fun k hk => ?_, fun k hk => ?_⟩
 ·have : (actN ps.length).getD k default = ⟨0, [0, 0, 0, 0]⟩ := by simp [actN, List.getD_eq_getElem?_getD, List.getElem?_replicate, hk]
  show actOk ((actN ps.length).getD k default).pc _ ((actN ps.length).getD k default).rs = true
  rw [this, actOk_iff]
  exact ⟨⟨by simp, by simp⟩, rfl, by simp⟩
 ·show linkSt _ ((tkL ks).getD k default) ((tkL ks).getD k default) = true
  rw [tkL_get hk]
  have := (netOk_w hn).lk k hk
  unfold linkOk at this
  rw [Bool.and_eq_true] at this
  exact link_of2 this.2 this.2 (List.prefix_refl _) (List.suffix_refl _) (fun _ => rfl) (fun _ => rfl)
theorem psK_s0 (hn : netOk ps ks = true) (hk : k < ps.length) : psK ps ks (s0 ps ks) k = ps0 (ps.getD k default).i (ps.getD k default).o := by
 have hpb := pg_bd (netOk_w hn).pg hk
 have ha : (actN ps.length).getD k default = ⟨0, [0, 0, 0, 0]⟩ := by simp [actN, List.getD_eq_getElem?_getD, List.getElem?_replicate, hk]
 show PS.mk ((actN ps.length).getD k default).pc ((actN ps.length).getD k default).rs _ _ = PS.mk _ _ _ _
 rw [ha]
 have e1 : (List.range (ps.getD k default).o.toNat).map (fun q => snL ks (s0 ps ks) (lFr ks k q)) = List.replicate (ps.getD k default).o.toNat [] := by
  refine List.eq_replicate_iff.2 ⟨by simp, fun r hr => ?_⟩
  obtain ⟨q, hq, rfl⟩ := List.mem_map.1 hr
  have hq := List.mem_range.1 hq
  have hL := (lFr_at hn hk (q := q) (by omega)).1
  show ((tkL ks).getD (lFr ks k q) default).drop _ = []
  rw [tkL_get hL]
  exact List.drop_length
 have e2 : (List.range (ps.getD k default).i.toNat).map (fun p => rdL (s0 ps ks) (lTo ks k p)) = List.replicate (ps.getD k default).i.toNat 0 := by
  refine List.eq_replicate_iff.2 ⟨by simp, fun r hr => ?_⟩
  obtain ⟨q, hq, rfl⟩ := List.mem_map.1 hr
  show ((((tkL ks).getD _ default).length : Int) - (((tkL ks).getD _ default).length : Int)) = 0
  omega
 rw [e1, e2]
structure KI (ps : List PG) (ks : List LK) (s : SX) (js : Nat → Nat) : Prop where
 ok : okS ps ks s
 run : ∀ k < ps.length, GoTo (ps.getD k default).l (insK ps ks s.2.2.1 k) (ps0 (ps.getD k default).i (ps.getD k default).o) (js k) (psK ps ks s k)
 tm : s.2.2.2 = (totJ js ps.length : Int)
theorem KI.start (hn : netOk ps ks = true) : KI ps ks (s0 ps ks) fun _ => 0 := by
 refine ⟨s0_ok hn, fun k hk => ?_, by rw [totJ_zero]; rfl⟩
 rw [psK_s0 hn hk]
 exact .nil _
theorem KI.step (h : KI ps ks s js) (hk : k < ps.length) (hc : canS ps ks s k = true) : KI ps ks (nextS ps ks s k) fun j => if j = k then js j + 1 else js j := by
 have w := step_w h.ok hk hc
 refine ⟨okS_next h.ok hk hc, fun j hj => ?_, ?_⟩
 ·by_cases e : j = k
  ·subst e
   rw [if_pos rfl, w.next]
   exact (((h.run j hj).snoc w.stop).more (insK_less w.le) (ub_ps0 _ _ _)).1
  ·rw [if_neg e, w.other j hj e]
   exact ((h.run j hj).more (insK_less w.le) (ub_ps0 _ _ _)).1
 ·rw [totJ_set, if_pos hk, Int.natCast_add, ← h.tm]
  rfl
theorem end_ext {l : List I4} {ins : List (List Int)} {i o : Int} {j : Nat} {u : PS} (h : GoTo l ins (ps0 i o) j u) (hb : badR (goP l ins (Int.toNat 3000) (ps0 i o)) = false) : j ≤ 3000 ∧ LeL u.outs (goP l ins (Int.toNat 3000) (ps0 i o)).1.outs := by
 have hj : j ≤ 3000 := by
  apply Classical.byContradiction
  intro hn
  have := h.short (Int.toNat 3000) (by show 3000 < j; omega)
  unfold badR at hb
  rw [this] at hb
  simp at hb
 refine ⟨hj, ?_⟩
 have := h.go (3000 - j)
 rw [show j + (3000 - j) = Int.toNat 3000 by show _ = 3000; omega] at this
 rw [this]
 exact goP_ext _ _
theorem good_run (w : LstW ps ks H rounds) (hk : k < ps.length) : badR (runK ps ks H k) = false := (rndOk_w.1 w.ok).1 k hk
theorem KI.hrun (h : KI ps ks s js) (hle : LeL s.2.2.1 H) (hk : k < ps.length) : GoTo (ps.getD k default).l (insK ps ks H k) (ps0 (ps.getD k default).i (ps.getD k default).o) (js k) (psK ps ks s k) := ((h.run k hk).more (insK_less hle) (ub_ps0 _ _ _)).1
theorem KI.short (h : KI ps ks s js) (w : LstW ps ks H rounds) (hle : LeL s.2.2.1 H) : ∀ k < ps.length, js k ≤ 3000 := fun k hk => (end_ext (h.hrun hle hk) (good_run w hk)).1
theorem sent_eq (hok : okS ps ks s) {L : Nat} (hL : L < ks.length) : s.2.2.1.getD L default = (ks.getD L default).tk ++ snL ks s L := by
 have w := stOk_w hok
 obtain ⟨_, _, q3, _, _, _⟩ := link_of (w.lnk L hL)
 rw [begB_pfx] at q3
 obtain ⟨t, ht⟩ := q3
 unfold snL
 rw [← ht, List.drop_left]
theorem psK_out (hn : netOk ps ks = true) (hk : k < ps.length) {q : Nat} (hq : (q : Int) < (ps.getD k default).o) : (psK ps ks s k).outs.getD q default = snL ks s (lFr ks k q) := by
 have hpb := pg_bd (netOk_w hn).pg hk
 show ((List.range (ps.getD k default).o.toNat).map (fun q => snL ks s (lFr ks k q))).getD q default = _
 rw [rng_get _ (by omega)]
theorem psK_used (hn : netOk ps ks = true) (hk : k < ps.length) {p : Nat} (hp : (p : Int) < (ps.getD k default).i) : (psK ps ks s k).used.getD p default = rdL s (lTo ks k p) := by
 have hpb := pg_bd (netOk_w hn).pg hk
 show ((List.range (ps.getD k default).i.toNat).map (fun p => rdL s (lTo ks k p))).getD p default = _
 rw [rng_get _ (by omega)]
theorem KI.runs (h : RunS ps ks s n u) : ∀ {js : Nat → Nat}, KI ps ks s js → ∃ js', KI ps ks u js' := by
 induction h with
 | nil => exact fun hi => ⟨_, hi⟩
 | cons hk hc _ ih => exact fun hi => ih (hi.step hk hc)
end
end Go.Proofs.Ytimgfinlbhodhaa.Ab
namespace Go.Proofs.Ytimgfinlbhodhaa.Ab
open Go
set_option linter.unusedVariables false
set_option linter.unusedSimpArgs false
def Hid (p : Prop) : Prop := p
theorem hid {p : Prop} (h : p) : Hid p := h
theorem Hid.un {p : Prop} (h : Hid p) : p := h
theorem goP_used {l : List I4} {ins : List (List Int)} : ∀ (n : Nat) (s : PS) (k : Nat), s.used.getD k default ≤ (goP l ins n s).1.used.getD k default
 | 0, s, k => by unfold goP; split <;> exact Int.le_refl _
 | n + 1, s, k => by
  unfold goP
  split
  ·exact Int.le_refl _
  ·exact Int.le_trans (next_used s k) (goP_used n _ k)
theorem want_port {i o : Int} {l : List I4} (hp : progOk i o l = true) (s : PS) (hw : (wP l s).1 = 2) : 0 ≤ (wP l s).2 ∧ (wP l s).2 < i := by
 obtain ⟨h1, h2⟩ := wantK_read hw
 have hlt : s.pc.toNat < l.length := by
  apply Classical.byContradiction
  intro hn
  rw [List.getD_eq_getElem?_getD, List.getElem?_eq_none (by omega)] at h1
  cases h1
 simp only [progOk, Bool.and_eq_true, List.all_eq_true] at hp
 have := hp.2 _ (getD_mem hlt)
 unfold wP
 rw [h2]
 generalize l.getD s.pc.toNat default = x at this h1 ⊢
 unfold opsOk at this
 rw [if_pos h1] at this
 simp [inR] at this
 omega
section
variable {ps : List PG} {ks : List LK} {s : SX} {k : Nat} {js : Nat → Nat} {H : List (List Int)} {rounds : Int}
def consK (ps : List PG) (ks : List LK) (s : SX) (k n : Nat) : List (List Int) := (List.range n).map fun p => (s.2.2.1.getD (lTo ks k p) default).take (rdL s (lTo ks k p)).toNat
theorem consK_len (n : Nat) : (consK ps ks s k n).length = n := by simp [consK]
theorem consK_snoc (n : Nat) : consK ps ks s k n ++ [(s.2.2.1.getD (lTo ks k n) default).take (rdL s (lTo ks k n)).toNat] = consK ps ks s k (n + 1) := by simp [consK, List.range_succ]
theorem consK_get {n p : Nat} (hp : p < n) : (consK ps ks s k n).getD p default = (s.2.2.1.getD (lTo ks k p) default).take (rdL s (lTo ks k p)).toNat := rng_get _ hp
theorem rdL_le (w : StW ps ks s.1 s.2.1 s.2.2.1 s.2.2.2) {L : Nat} (hL : L < ks.length) : 0 ≤ rdL s L ∧ rdL s L ≤ ((s.2.2.1.getD L default).length : Int) := by
 obtain ⟨_, _, _, q4, _, _⟩ := link_of (w.lnk L hL)
 rw [endB_sfx] at q4
 have := q4.length_le
 unfold rdL
 omega
theorem consK_IW (hok : okS ps ks s) (hk : k < ps.length) : IW (ps.getD k default).i (consK ps ks s k (ps.getD k default).i.toNat) := by
 have w := stOk_w hok
 have hpb := pg_bd (netOk_w w.net).pg hk
 refine ⟨by rw [consK_len]; omega, fun r hr => ?_⟩
 obtain ⟨p, hp, rfl⟩ := List.mem_map.1 hr
 have hp := List.mem_range.1 hp
 have hL := (lTo_at w.net hk (p := p) (by omega)).1
 exact strOk_pfx (List.take_prefix _ _) (link_of (w.lnk _ hL)).2.1
theorem kept_run (hi : KI ps ks s js) (hk : k < ps.length) (hw : (goP (ps.getD k default).l (consK ps ks s k (ps.getD k default).i.toNat) (Int.toNat 3000) (ps0 (ps.getD k default).i (ps.getD k default).o)).2.1 ≠ 1) :
  (∀ p : Nat, (p : Int) < (ps.getD k default).i → (goP (ps.getD k default).l (consK ps ks s k (ps.getD k default).i.toNat) (Int.toNat 3000) (ps0 (ps.getD k default).i (ps.getD k default).o)).1.used.getD p default = ((((consK ps ks s k (ps.getD k default).i.toNat).getD p default).length : Nat) : Int)) ∧
  ∀ q : Nat, (q : Int) < (ps.getD k default).o → snL ks s (lFr ks k q) <+: (goP (ps.getD k default).l (consK ps ks s k (ps.getD k default).i.toNat) (Int.toNat 3000) (ps0 (ps.getD k default).i (ps.getD k default).o)).1.outs.getD q default := by
 have w := stOk_w hi.ok
 have hn := w.net
 have hpb := pg_bd (netOk_w hn).pg hk
 have hpo := pg_ok hn hk
 have hIW := consK_IW hi.ok hk
 have hlen : ∀ p : Nat, (p : Int) < (ps.getD k default).i → (((consK ps ks s k (ps.getD k default).i.toNat).getD p default).length : Int) = rdL s (lTo ks k p) := fun p hp => by
  rw [consK_get (by omega), List.length_take]
  have hL := (lTo_at hn hk hp).1
  have := rdL_le w hL
  omega
 have hg : GoTo (ps.getD k default).l (consK ps ks s k (ps.getD k default).i.toNat) (ps0 (ps.getD k default).i (ps.getD k default).o) (js k) (psK ps ks s k) := by
  refine (hi.run k hk).fewer (fun p => ?_) (by rw [consK_len]; simp [ps0]) (fun p => (ub_ps0 (insK ps ks s.2.2.1 k) _ _ p).1) (fun p => ?_) (fun u hu hw _ => ?_)
  ·by_cases hp : p < (ps.getD k default).i.toNat
   ·rw [consK_get hp, insK_at hk (by omega)]
    exact List.take_prefix _ _
   ·rw [List.getD_eq_getElem?_getD, List.getElem?_eq_none (by rw [consK_len]; omega)]
    exact List.nil_prefix
  ·by_cases hp : p < (ps.getD k default).i.toNat
   ·rw [psK_used hn hk (by omega), hlen p (by omega)]
    exact Int.le_refl _
   ·have e : (psK ps ks s k).used.getD p default = 0 := by
     show ((List.range (ps.getD k default).i.toNat).map (fun p => rdL s (lTo ks k p))).getD p default = 0
     rw [List.getD_eq_getElem?_getD, List.getElem?_eq_none (by simpa using hp)]
     rfl
    rw [e]
    omega
  ·have := want_port hpo u hw
   rw [consK_len]
   omega
 have hj : js k ≤ 3000 := by
  apply Classical.byContradiction
  intro hn
  exact hw (hg.short (Int.toNat 3000) (by show 3000 < js k; omega))
 have hgo := hg.go (3000 - js k)
 rw [show js k + (3000 - js k) = Int.toNat 3000 by show _ = 3000; omega] at hgo
 have hPW := run_PW hpo hIW (Int.toNat 3000) _ (PW.init hpo hIW)
 constructor
 ·intro p hp
  have h1 := hPW.ub p (by have := hPW.ul; omega)
  have h2 := goP_used (l := (ps.getD k default).l) (ins := consK ps ks s k (ps.getD k default).i.toNat) (3000 - js k) (psK ps ks s k) p
  rw [← hgo, psK_used hn hk hp] at h2
  have h3 := hlen p hp
  omega
 ·intro q hq
  have h2 := (goP_ext (l := (ps.getD k default).l) (ins := consK ps ks s k (ps.getD k default).i.toNat) (3000 - js k) (psK ps ks s k)).2 q
  rw [← hgo, psK_out hn hk hq] at h2
  exact h2
theorem st_bnds (hok : okS ps ks s) : XW s.1 ∧ s.1.length ≤ 12 ∧ LW s.2.1 ∧ s.2.1.length ≤ 30 ∧ LW s.2.2.1 ∧ s.2.2.1.length ≤ 30 := by
 have w := stOk_w hok
 have hp := (netOk_w w.net).pl
 have hk := (netOk_w w.net).kl
 have hx := w.xl
 have hq := w.ql
 have hh := w.hl
 refine ⟨fun x hx2 => ?_, by omega, fun r hr => ?_, by omega, fun r hr => ?_, by omega⟩
 ·obtain ⟨j, hj, rfl⟩ := List.getElem_of_mem hx2
  have := actOk_len (w.act j (by omega))
  rw [show s.1.getD j default = s.1[j] by simp [List.getD_eq_getElem?_getD, hj]] at this
  omega
 ·obtain ⟨j, hj, rfl⟩ := List.getElem_of_mem hr
  have := strLen (link_of (w.lnk j (by omega))).1
  rw [show s.2.1.getD j default = s.2.1[j] by simp [List.getD_eq_getElem?_getD, hj]] at this
  omega
 ·obtain ⟨j, hj, rfl⟩ := List.getElem_of_mem hr
  have := strLen (link_of (w.lnk j (by omega))).2.1
  rw [show s.2.2.1.getD j default = s.2.2.1[j] by simp [List.getD_eq_getElem?_getD, hj]] at this
  omega
end
end Go.Proofs.Ytimgfinlbhodhaa.Ab
