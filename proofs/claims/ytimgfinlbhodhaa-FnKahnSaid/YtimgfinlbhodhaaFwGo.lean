/- Walks of functions of the program, and the plain definitions. -/
import Derived.Test.YtimgfinlbhodhaaAbRunT
import Derived.Test.YtimgfinlbhodhaaAbGen2
import Derived.Test.YtimgfinlbhodhaaAbMono2
import Derived.Test.YtimgfinlbhodhaaFwGd
import Derived.Test.YtimgfinlbhodhaaAbHand
import Derived.Test.YtimgfinlbhodhaaAbObs
namespace Go.Proofs.Ytimgfinlbhodhaa.Ab
open Go
set_option linter.unusedVariables false
set_option linter.unusedSimpArgs false
section
variable {l : List I4} {ins less : List (List Int)} {s u : PS} {n m : Nat}
inductive GoTo (l : List I4) (ins : List (List Int)) : PS → Nat → PS → Prop
 | nil (s : PS) : GoTo l ins s 0 s
 | cons {s u : PS} {n : Nat} (hs : stopP l ins s = false) (h : GoTo l ins (nextP l ins s) n u) : GoTo l ins s (n + 1) u
theorem GoTo.snoc (h : GoTo l ins s n u) (hs : stopP l ins u = false) : GoTo l ins s (n + 1) (nextP l ins u) := by
 induction h with
 | nil => exact .cons hs (.nil _)
 | cons h1 _ ih => exact .cons h1 (ih hs)
theorem GoTo.go (h : GoTo l ins s n u) : ∀ m, goP l ins (n + m) s = goP l ins m u := by
 induction h with
 | nil => intro m; rw [Nat.zero_add]
 | cons h1 _ ih => intro m; rw [Nat.add_right_comm, goP_succ h1]; exact ih m
theorem GoTo.short (h : GoTo l ins s n u) : ∀ f, f < n → (goP l ins f s).2.1 = 1 := by
 induction h with
 | nil => intro f hf; omega
 | cons h1 _ ih =>
  intro f hf
  cases f with
  | zero => rw [goP_zero h1]
  | succ f => rw [goP_succ h1]; exact ih f (by omega)
theorem GoTo.more (h : GoTo l less s n u) (hl : ∀ k : Nat, less.getD k default <+: ins.getD k default) (hu : UB less s) : GoTo l ins s n u ∧ UB less u := by
 induction h with
 | nil => exact ⟨.nil _, hu⟩
 | cons h1 _ ih =>
  obtain ⟨a1, a2, a3⟩ := less_next hl hu h1
  obtain ⟨b1, b2⟩ := ih a3
  rw [a2] at b1
  exact ⟨.cons a1 b1, b2⟩
theorem GoTo.used (h : GoTo l ins s n u) (k : Nat) : s.used.getD k default ≤ u.used.getD k default := by
 induction h with
 | nil => exact Int.le_refl _
 | cons h1 _ ih => exact Int.le_trans (next_used _ k) ih
end
section
variable {ps : List PG} {ks : List LK} {s : SX} {k : Nat}
def lTo (ks : List LK) (k p : Nat) : Nat := (onlyAt (isTo k p) ks).toNat
def lFr (ks : List LK) (k q : Nat) : Nat := (onlyAt (isFr k q) ks).toNat
theorem lTo_at (hn : netOk ps ks = true) (hk : k < ps.length) {p : Nat} (hp : (p : Int) < (ps.getD k default).i) : lTo ks k p < ks.length ∧ (ks.getD (lTo ks k p) default).to = (k : Int) ∧ (ks.getD (lTo ks k p) default).ip = (p : Int) := by
 obtain ⟨a1, a2, _⟩ := onlyAt_at ((netOk_w hn).to k hk p hp)
 simp only [isTo, Bool.and_eq_true, beq_iff_eq] at a2
 exact ⟨a1, a2.1, a2.2⟩
theorem lFr_at (hn : netOk ps ks = true) (hk : k < ps.length) {q : Nat} (hq : (q : Int) < (ps.getD k default).o) : lFr ks k q < ks.length ∧ (ks.getD (lFr ks k q) default).fr = (k : Int) ∧ (ks.getD (lFr ks k q) default).ou = (q : Int) := by
 obtain ⟨a1, a2, _⟩ := onlyAt_at ((netOk_w hn).fr k hk q hq)
 simp only [isFr, Bool.and_eq_true, beq_iff_eq] at a2
 exact ⟨a1, a2.1, a2.2⟩
def rdL (s : SX) (L : Nat) : Int := ((s.2.2.1.getD L default).length : Int) - ((s.2.1.getD L default).length : Int)
def snL (ks : List LK) (s : SX) (L : Nat) : List Int := (s.2.2.1.getD L default).drop (ks.getD L default).tk.length
def psK (ps : List PG) (ks : List LK) (s : SX) (k : Nat) : PS := ⟨(s.1.getD k default).pc, (s.1.getD k default).rs, (List.range (ps.getD k default).o.toNat).map (fun q => snL ks s (lFr ks k q)), (List.range (ps.getD k default).i.toNat).map (fun p => rdL s (lTo ks k p))⟩
theorem rng_get {α : Type} [Inhabited α] {n k : Nat} (f : Nat → α) (h : k < n) : ((List.range n).map f).getD k default = f k := by
 rw [List.getD_eq_getElem?_getD, List.getElem?_map, List.getElem?_range h]; rfl
theorem rng_set {α : Type} [Inhabited α] {n k : Nat} {f g : Nat → α} {x : α} (hk : k < n) (h : ∀ j < n, g j = if j = k then x else f j) : (List.range n).map g = ((List.range n).map f).set k x := by
 refine List.ext_getElem (by simp) fun j h1 h2 => ?_
 simp only [List.length_map, List.length_range] at h1
 rw [List.getElem_set]
 simp only [List.getElem_map, List.getElem_range]
 rw [h j h1]
 by_cases e : j = k
 ·rw [if_pos e, if_pos e.symm]
 ·rw [if_neg e, if_neg (fun h => e h.symm)]
theorem rng_same {α : Type} {n : Nat} {f g : Nat → α} (h : ∀ j < n, g j = f j) : (List.range n).map g = (List.range n).map f := List.map_congr_left fun j hj => h j (List.mem_range.1 hj)
theorem w_eq (k : Nat) : wP (ps.getD k default).l (psK ps ks s k) = wAtK ps s.1 k := rfl
structure StepW (ps : List PG) (ks : List LK) (s : SX) (k : Nat) : Prop where
 stop : stopP (ps.getD k default).l (insK ps ks s.2.2.1 k) (psK ps ks s k) = false
 next : psK ps ks (nextS ps ks s k) k = nextP (ps.getD k default).l (insK ps ks s.2.2.1 k) (psK ps ks s k)
 other : ∀ j < ps.length, j ≠ k → psK ps ks (nextS ps ks s k) j = psK ps ks s j
 le : LeL s.2.2.1 (nextS ps ks s k).2.2.1
theorem xs_at (k j : Nat) (hk : k < s.1.length) : (xsK ps ks s.1 s.2.1 k).getD j default = if k = j then newA ps ks s.1 s.2.1 k else s.1.getD j default := by
 unfold xsK
 rw [gset_any]
 by_cases e : k = j
 ·rw [if_pos ⟨e, hk⟩, if_pos e]
 ·rw [if_neg (fun h => e h.1), if_neg e]
theorem insK_at (hk : k < ps.length) {p : Nat} (hp : (p : Int) < (ps.getD k default).i) (hs : List (List Int)) : (insK ps ks hs k).getD p default = hs.getD (lTo ks k p) default := by
 unfold insK insN
 rw [rng_get _ (by omega)]
 rfl
theorem step_w (hok : okS ps ks s) (hk : k < ps.length) (hc : canS ps ks s k = true) : StepW ps ks s k := by
 have w := stOk_w hok
 have hn := w.net
 have hpb := pg_bd (netOk_w hn).pg hk
 have hql := w.ql
 have hhl := w.hl
 have hxl := w.xl
 obtain ⟨ht, hw⟩ := can_w hc
 have hx : ∀ j, (nextS ps ks s k).1.getD j default = if k = j then newA ps ks s.1 s.2.1 k else s.1.getD j default := fun j => xs_at k j (by omega)
 rcases hw with h1 | ⟨h2, hl⟩ | ⟨h3, hl⟩
 ·have e1 : (nextS ps ks s k).2.1 = s.2.1 := by show qsK ps ks s.1 s.2.1 k = _; unfold qsK; rw [if_neg (by omega), if_neg (by omega)]
  have e2 : (nextS ps ks s k).2.2.1 = s.2.2.1 := by show hsK ps ks s.1 s.2.2.1 k = _; unfold hsK; rw [if_neg (by omega)]
  have e3 : ∀ L, rdL (nextS ps ks s k) L = rdL s L := fun L => by unfold rdL; rw [e1, e2]
  have e4 : ∀ L, snL ks (nextS ps ks s k) L = snL ks s L := fun L => by unfold snL; rw [e2]
  have ht0 : tokK ps ks s.1 s.2.1 k = 0 := by unfold tokK; rw [if_neg (by omega)]
  refine ⟨?_, ?_, fun j hj hne => ?_, by rw [e2]; exact LeL.refl _⟩
  ·unfold stopP; rw [w_eq, h1]; rfl
  ·unfold psK nextP
   simp only [e3, e4, hx, if_true]
   have hwP : (wP (ps.getD k default).l (psK ps ks s k)).1 = 1 := h1
   unfold psK at hwP
   rw [if_neg (by rw [hwP]; decide), if_neg (by rw [hwP]; decide)]
   unfold newA
   rw [ht0]
   have : tokP (ps.getD k default).l (insK ps ks s.2.2.1 k) (psK ps ks s k) = 0 := by unfold tokP; rw [if_neg (by rw [w_eq, h1]; decide)]
   unfold psK at this
   rw [this]
   rfl
  ·unfold psK
   simp only [e3, e4, hx]
   rw [if_neg (fun h => hne h.symm)]
 ·obtain ⟨p0, p1, g1, g2⟩ := want_two w hk h2
  obtain ⟨p, hp⟩ : ∃ p : Nat, (wAtK ps s.1 k).2 = (p : Int) := ⟨(wAtK ps s.1 k).2.toNat, by omega⟩
  have hL : lnkK ps ks s.1 k = onlyAt (isTo k (p : Int)) ks := by rw [lnk_2 h2, hp]
  have hLn : (lnkK ps ks s.1 k).toNat = lTo ks k p := by rw [hL]; rfl
  rw [hp] at p1
  obtain ⟨a1, a2, a3⟩ := lTo_at hn hk p1
  rw [hLn] at hl
  have e2 : (nextS ps ks s k).2.2.1 = s.2.2.1 := by show hsK ps ks s.1 s.2.2.1 k = _; unfold hsK; rw [if_neg (by omega)]
  have e1 : (nextS ps ks s k).2.1 = s.2.1.set (lTo ks k p) ((s.2.1.getD (lTo ks k p) default).drop 1) := by show qsK ps ks s.1 s.2.1 k = _; unfold qsK; rw [if_pos h2, hLn]
  have e3 : ∀ L, rdL (nextS ps ks s k) L = if L = lTo ks k p then rdL s L + 1 else rdL s L := fun L => by
   unfold rdL
   rw [e1, e2, gset_any]
   by_cases e : L = lTo ks k p
   ·rw [if_pos e, if_pos ⟨e.symm, by omega⟩, e, List.length_drop]; omega
   ·rw [if_neg e, if_neg (fun h => e h.1.symm)]
  have e4 : ∀ L, snL ks (nextS ps ks s k) L = snL ks s L := fun L => by unfold snL; rw [e2]
  obtain ⟨_, _, _, q4, _, _⟩ := link_of (w.lnk _ a1)
  rw [endB_sfx] at q4
  obtain ⟨v, hv⟩ := q4
  have hvl : v.length + (s.2.1.getD (lTo ks k p) default).length = (s.2.2.1.getD (lTo ks k p) default).length := by rw [← hv, List.length_append]
  have hrd : rdL s (lTo ks k p) = (v.length : Int) := by unfold rdL; omega
  have hwP : (wP (ps.getD k default).l (psK ps ks s k)).1 = 2 := h2
  have hwQ : (wP (ps.getD k default).l (psK ps ks s k)).2.toNat = p := by rw [w_eq, hp]; rfl
  have hpi : p < (ps.getD k default).i.toNat := by omega
  have hus : (psK ps ks s k).used.getD p default = (v.length : Int) := by
   show ((List.range (ps.getD k default).i.toNat).map (fun p => rdL s (lTo ks k p))).getD p default = _
   rw [rng_get _ hpi, hrd]
  have hin : (insK ps ks s.2.2.1 k).getD p default = s.2.2.1.getD (lTo ks k p) default := insK_at hk p1 _
  have htk : tokK ps ks s.1 s.2.1 k = tokP (ps.getD k default).l (insK ps ks s.2.2.1 k) (psK ps ks s k) := by
   unfold tokK tokP
   rw [if_pos h2, if_pos hwP, hwQ, hus, hin, hLn, Int.toNat_natCast]
   have : (s.2.2.1.getD (lTo ks k p) default).getD v.length default = (v ++ s.2.1.getD (lTo ks k p) default).getD v.length default := by rw [hv]
   have e5 : (v ++ s.2.1.getD (lTo ks k p) default).getD v.length default = (s.2.1.getD (lTo ks k p) default).getD 0 default := by
    rw [List.getD_eq_getElem?_getD, List.getElem?_append_right (Nat.le_refl _), Nat.sub_self, ← List.getD_eq_getElem?_getD]
   rw [this, e5]
  refine ⟨?_, ?_, fun j hj hne => ?_, by rw [e2]; exact LeL.refl _⟩
  ·rw [stopP_two (p := (wP (ps.getD k default).l (psK ps ks s k)).2) hwP rfl, hwQ, hus, hin]
   exact beq_eq_false_iff_ne.2 (by omega)
  ·show PS.mk _ _ _ _ = PS.mk _ _ _ _
   rw [if_neg (by rw [hwP]; decide), if_pos hwP, hwQ, hus]
   simp only [e4, hx, if_true]
   unfold newA
   rw [htk]
   congr 1
   refine rng_set hpi fun j hj => ?_
   rw [e3]
   by_cases e : j = p
   ·rw [if_pos e, e, if_pos rfl, hrd]
   ·rw [if_neg e, if_neg (fun h => ?_)]
    have b := lTo_at hn hk (p := j) (by omega)
    rw [h, a3] at b
    omega
  ·show PS.mk _ _ _ _ = PS.mk _ _ _ _
   simp only [e4, hx]
   rw [if_neg (fun h => hne h.symm)]
   congr 1
   refine rng_same fun q hq => ?_
   rw [e3, if_neg (fun h => ?_)]
   have hpj := pg_bd (netOk_w hn).pg hj
   have b := lTo_at hn hj (p := q) (by omega)
   rw [h, a2] at b
   omega
 ·obtain ⟨p0, p1, g1, g2⟩ := want_three w hk h3
  obtain ⟨p, hp⟩ : ∃ p : Nat, (wAtK ps s.1 k).2 = (p : Int) := ⟨(wAtK ps s.1 k).2.toNat, by omega⟩
  have hLn : (lnkK ps ks s.1 k).toNat = lFr ks k p := by rw [lnk_3 h3, hp]; rfl
  rw [hp] at p1
  obtain ⟨a1, a2, a3⟩ := lFr_at hn hk p1
  rw [hLn] at hl
  have e1 : (nextS ps ks s k).2.1 = s.2.1.set (lFr ks k p) (s.2.1.getD (lFr ks k p) default ++ [wrK ps s.1 k]) := by show qsK ps ks s.1 s.2.1 k = _; unfold qsK; rw [if_neg (by omega), if_pos h3, hLn]
  have e2 : (nextS ps ks s k).2.2.1 = s.2.2.1.set (lFr ks k p) (s.2.2.1.getD (lFr ks k p) default ++ [wrK ps s.1 k]) := by show hsK ps ks s.1 s.2.2.1 k = _; unfold hsK; rw [if_pos h3, hLn]
  have e3 : ∀ L, rdL (nextS ps ks s k) L = rdL s L := fun L => by
   unfold rdL
   rw [e1, e2, gset_any, gset_any]
   by_cases e : lFr ks k p = L
   ·rw [if_pos ⟨e, by omega⟩, if_pos ⟨e, by omega⟩, e, List.length_append, List.length_append]
    simp only [List.length_cons, List.length_nil]
    omega
   ·rw [if_neg (fun h => e h.1), if_neg (fun h => e h.1)]
  obtain ⟨_, _, q3, _, _, _⟩ := link_of (w.lnk _ a1)
  rw [begB_pfx] at q3
  have hle := q3.length_le
  have e4 : ∀ L, snL ks (nextS ps ks s k) L = if L = lFr ks k p then snL ks s L ++ [wrK ps s.1 k] else snL ks s L := fun L => by
   unfold snL
   rw [e2, gset_any]
   by_cases e : L = lFr ks k p
   ·rw [if_pos e, if_pos ⟨e.symm, by omega⟩, e, List.drop_append_of_le_length hle]
   ·rw [if_neg e, if_neg (fun h => e h.1.symm)]
  have hwP : (wP (ps.getD k default).l (psK ps ks s k)).1 = 3 := h3
  have hwQ : (wP (ps.getD k default).l (psK ps ks s k)).2.toNat = p := by rw [w_eq, hp]; rfl
  have hpo : p < (ps.getD k default).o.toNat := by omega
  have hou : (psK ps ks s k).outs.getD p default = snL ks s (lFr ks k p) := by
   show ((List.range (ps.getD k default).o.toNat).map (fun q => snL ks s (lFr ks k q))).getD p default = _
   rw [rng_get _ hpo]
  have htk : tokK ps ks s.1 s.2.1 k = tokP (ps.getD k default).l (insK ps ks s.2.2.1 k) (psK ps ks s k) := by
   unfold tokK tokP
   rw [if_neg (by omega), if_neg (by rw [hwP]; decide)]
  refine ⟨?_, ?_, fun j hj hne => ?_, ?_⟩
  ·rw [stopP_three (p := (wP (ps.getD k default).l (psK ps ks s k)).2) hwP rfl, hwQ, hou]
   have : (snL ks s (lFr ks k p)).length ≤ (s.2.2.1.getD (lFr ks k p) default).length := by unfold snL; rw [List.length_drop]; omega
   exact beq_eq_false_iff_ne.2 (by omega)
  ·show PS.mk _ _ _ _ = PS.mk _ _ _ _
   rw [if_pos hwP, if_neg (by rw [hwP]; decide), hwQ, hou]
   simp only [e3, hx, if_true]
   unfold newA
   rw [htk]
   congr 1
   refine rng_set hpo fun j hj => ?_
   rw [e4]
   by_cases e : j = p
   ·rw [if_pos e, e, if_pos rfl]; rfl
   ·rw [if_neg e, if_neg (fun h => ?_)]
    have b := lFr_at hn hk (q := j) (by omega)
    rw [h, a3] at b
    omega
  ·show PS.mk _ _ _ _ = PS.mk _ _ _ _
   simp only [e3, hx]
   rw [if_neg (fun h => hne h.symm)]
   congr 1
   refine rng_same fun q hq => ?_
   rw [e4, if_neg (fun h => ?_)]
   have hpj := pg_bd (netOk_w hn).pg hj
   have b := lFr_at hn hj (q := q) (by omega)
   rw [h, a2] at b
   omega
  ·rw [e2]
   refine ⟨by simp, fun L => ?_⟩
   rw [gset_any]
   split
   ·rename_i h; rw [← h.1]; exact List.prefix_append _ _
   ·exact List.prefix_refl _
end
end Go.Proofs.Ytimgfinlbhodhaa.Ab
namespace Go.Proofs.Ytimgfinlbhodhaa.Ab
open Go
set_option linter.unusedVariables false
set_option linter.unusedSimpArgs false
theorem LeL.antisymm {a b : List (List Int)} (h : LeL a b) (k : LeL b a) : a = b := by
 refine List.ext_getElem h.1 fun j h1 h2 => ?_
 have e1 : a.getD j default = a[j] := by simp [List.getD_eq_getElem?_getD, h1]
 have e2 : b.getD j default = b[j] := by simp [List.getD_eq_getElem?_getD, h2]
 have p1 := h.2 j
 have p2 := k.2 j
 rw [e1, e2] at p1 p2
 exact p1.eq_of_length (Nat.le_antisymm p1.length_le p2.length_le)
def totJ (js : Nat → Nat) : Nat → Nat
 | 0 => 0
 | n + 1 => totJ js n + js n
theorem totJ_set (js : Nat → Nat) (k : Nat) : ∀ n, totJ (fun j => if j = k then js j + 1 else js j) n = totJ js n + if k < n then 1 else 0
 | 0 => by simp [totJ]
 | n + 1 => by
  simp only [totJ]
  rw [totJ_set js k n]
  by_cases e : n = k
  ·subst e; simp; omega
  ·rw [if_neg e]
   by_cases h : k < n
   ·rw [if_pos h, if_pos (by omega)]; omega
   ·rw [if_neg h, if_neg (by omega)]; omega
theorem totJ_le {js : Nat → Nat} : ∀ n, (∀ k < n, js k ≤ 3000) → totJ js n ≤ 3000 * n
 | 0, _ => by simp [totJ]
 | n + 1, h => by
  have := totJ_le n fun k hk => h k (by omega)
  have := h n (by omega)
  simp only [totJ]
  omega
theorem totJ_zero : ∀ n, totJ (fun _ => 0) n = 0
 | 0 => rfl
 | n + 1 => by simp [totJ, totJ_zero n]
section
variable {ps : List PG} {ks : List LK} {s u : SX} {k n : Nat} {js : Nat → Nat} {H : List (List Int)} {rounds : Int}
def s0 (ps : List PG) (ks : List LK) : SX := (actN ps.length, tkL ks, tkL ks, 0)
theorem s0_ok (hn : netOk ps ks = true) : okS ps ks (s0 ps ks) := by
 refine st_of ⟨hn, actN_len _, tkL_len _, tkL_len _, Int.le_refl _, by show (0 : Int) ≤ 20000; decide, fun k hk => ?_, fun k hk => ?_⟩
 ·have : (actN ps.length).getD k default = ⟨0, [0, 0, 0, 0]⟩ := by simp [actN, List.getD_eq_getElem?_getD, List.getElem?_replicate, hk]
  show actOk ((actN ps.length).getD k default).pc _ ((actN ps.length).getD k default).rs = true
  rw [this, actOk_iff]
  exact ⟨⟨by simp, by simp⟩, rfl, by simp⟩
 ·show linkSt _ ((tkL ks).getD k default) ((tkL ks).getD k default) = true
  rw [tkL_get hk]
  have := (netOk_w hn).lk k hk
  unfold linkOk at this
  rw [Bool.and_eq_true] at this
  exact link_of2 this.2 this.2 (List.prefix_refl _) (List.suffix_refl _) (fun _ => rfl) (fun _ => rfl)
theorem psK_s0 (hn : netOk ps ks = true) (hk : k < ps.length) : psK ps ks (s0 ps ks) k = ps0 (ps.getD k default).i (ps.getD k default).o := by
 have hpb := pg_bd (netOk_w hn).pg hk
 have ha : (actN ps.length).getD k default = ⟨0, [0, 0, 0, 0]⟩ := by simp [actN, List.getD_eq_getElem?_getD, List.getElem?_replicate, hk]
 show PS.mk ((actN ps.length).getD k default).pc ((actN ps.length).getD k default).rs _ _ = PS.mk _ _ _ _
 rw [ha]
 have e1 : (List.range (ps.getD k default).o.toNat).map (fun q => snL ks (s0 ps ks) (lFr ks k q)) = List.replicate (ps.getD k default).o.toNat [] := by
  refine List.eq_replicate_iff.2 ⟨by simp, fun r hr => ?_⟩
  obtain ⟨q, hq, rfl⟩ := List.mem_map.1 hr
  have hq := List.mem_range.1 hq
  have hL := (lFr_at hn hk (q := q) (by omega)).1
  show ((tkL ks).getD (lFr ks k q) default).drop _ = []
  rw [tkL_get hL]
  exact List.drop_length
 have e2 : (List.range (ps.getD k default).i.toNat).map (fun p => rdL (s0 ps ks) (lTo ks k p)) = List.replicate (ps.getD k default).i.toNat 0 := by
  refine List.eq_replicate_iff.2 ⟨by simp, fun r hr => ?_⟩
  obtain ⟨q, hq, rfl⟩ := List.mem_map.1 hr
  show ((((tkL ks).getD _ default).length : Int) - (((tkL ks).getD _ default).length : Int)) = 0
  omega
 rw [e1, e2]
structure KI (ps : List PG) (ks : List LK) (s : SX) (js : Nat → Nat) : Prop where
 ok : okS ps ks s
 run : ∀ k < ps.length, GoTo (ps.getD k default).l (insK ps ks s.2.2.1 k) (ps0 (ps.getD k default).i (ps.getD k default).o) (js k) (psK ps ks s k)
 tm : s.2.2.2 = (totJ js ps.length : Int)
theorem KI.start (hn : netOk ps ks = true) : KI ps ks (s0 ps ks) fun _ => 0 := by
 refine ⟨s0_ok hn, fun k hk => ?_, by rw [totJ_zero]; rfl⟩
 rw [psK_s0 hn hk]
 exact .nil _
theorem KI.step (h : KI ps ks s js) (hk : k < ps.length) (hc : canS ps ks s k = true) : KI ps ks (nextS ps ks s k) fun j => if j = k then js j + 1 else js j := by
 have w := step_w h.ok hk hc
 refine ⟨okS_next h.ok hk hc, fun j hj => ?_, ?_⟩
 ·by_cases e : j = k
  ·subst e
   rw [if_pos rfl, w.next]
   exact (((h.run j hj).snoc w.stop).more (insK_less w.le) (ub_ps0 _ _ _)).1
  ·rw [if_neg e, w.other j hj e]
   exact ((h.run j hj).more (insK_less w.le) (ub_ps0 _ _ _)).1
 ·rw [totJ_set, if_pos hk, Int.natCast_add, ← h.tm]
  rfl
theorem end_ext {l : List I4} {ins : List (List Int)} {i o : Int} {j : Nat} {u : PS} (h : GoTo l ins (ps0 i o) j u) (hb : badR (goP l ins (Int.toNat 3000) (ps0 i o)) = false) : j ≤ 3000 ∧ LeL u.outs (goP l ins (Int.toNat 3000) (ps0 i o)).1.outs := by
 have hj : j ≤ 3000 := by
  apply Classical.byContradiction
  intro hn
  have := h.short (Int.toNat 3000) (by show 3000 < j; omega)
  unfold badR at hb
  rw [this] at hb
  simp at hb
 refine ⟨hj, ?_⟩
 have := h.go (3000 - j)
 rw [show j + (3000 - j) = Int.toNat 3000 by show _ = 3000; omega] at this
 rw [this]
 exact goP_ext _ _
theorem good_run (w : LstW ps ks H rounds) (hk : k < ps.length) : badR (runK ps ks H k) = false := (rndOk_w.1 w.ok).1 k hk
theorem KI.hrun (h : KI ps ks s js) (hle : LeL s.2.2.1 H) (hk : k < ps.length) : GoTo (ps.getD k default).l (insK ps ks H k) (ps0 (ps.getD k default).i (ps.getD k default).o) (js k) (psK ps ks s k) := ((h.run k hk).more (insK_less hle) (ub_ps0 _ _ _)).1
theorem KI.short (h : KI ps ks s js) (w : LstW ps ks H rounds) (hle : LeL s.2.2.1 H) : ∀ k < ps.length, js k ≤ 3000 := fun k hk => (end_ext (h.hrun hle hk) (good_run w hk)).1
theorem sent_eq (hok : okS ps ks s) {L : Nat} (hL : L < ks.length) : s.2.2.1.getD L default = (ks.getD L default).tk ++ snL ks s L := by
 have w := stOk_w hok
 obtain ⟨_, _, q3, _, _, _⟩ := link_of (w.lnk L hL)
 rw [begB_pfx] at q3
 obtain ⟨t, ht⟩ := q3
 unfold snL
 rw [← ht, List.drop_left]
theorem psK_out (hn : netOk ps ks = true) (hk : k < ps.length) {q : Nat} (hq : (q : Int) < (ps.getD k default).o) : (psK ps ks s k).outs.getD q default = snL ks s (lFr ks k q) := by
 have hpb := pg_bd (netOk_w hn).pg hk
 show ((List.range (ps.getD k default).o.toNat).map (fun q => snL ks s (lFr ks k q))).getD q default = _
 rw [rng_get _ (by omega)]
theorem psK_used (hn : netOk ps ks = true) (hk : k < ps.length) {p : Nat} (hp : (p : Int) < (ps.getD k default).i) : (psK ps ks s k).used.getD p default = rdL s (lTo ks k p) := by
 have hpb := pg_bd (netOk_w hn).pg hk
 show ((List.range (ps.getD k default).i.toNat).map (fun p => rdL s (lTo ks k p))).getD p default = _
 rw [rng_get _ (by omega)]
theorem fr_link (hn : netOk ps ks = true) {L : Nat} (hL : L < ks.length) (hf : 0 ≤ (ks.getD L default).fr) : ∃ k q : Nat, k < ps.length ∧ (ks.getD L default).fr = (k : Int) ∧ (ks.getD L default).ou = (q : Int) ∧ (q : Int) < (ps.getD k default).o ∧ lFr ks k q = L := by
 obtain ⟨e1, e2, e3⟩ := ends_fr (linkOk_ends ((netOk_w hn).lk L hL)) hf
 refine ⟨(ks.getD L default).fr.toNat, (ks.getD L default).ou.toNat, e1, by omega, by omega, by omega, ?_⟩
 have hat := (netOk_w hn).fr _ e1 (ks.getD L default).ou.toNat (by omega)
 obtain ⟨_, _, a3⟩ := onlyAt_at hat
 have := a3 L hL (by simp only [isFr, Bool.and_eq_true, beq_iff_eq]; omega)
 unfold lFr
 omega
theorem le_sent (hok : okS ps ks s) (w : LstW ps ks H rounds) (h : ∀ k < ps.length, GoTo (ps.getD k default).l (insK ps ks H k) (ps0 (ps.getD k default).i (ps.getD k default).o) (js k) (psK ps ks s k)) : LeL s.2.2.1 H := by
 have ws := stOk_w hok
 refine ⟨by rw [ws.hl, w.len], fun L => ?_⟩
 by_cases hL : L < ks.length
 ·have hH : H.getD L default = nxtL ps ks H (ks.getD L default) := by rw [← nxts_get (ps := ps) (hs := H) hL, w.fix]
  rw [sent_eq hok hL, hH]
  by_cases hf : 0 ≤ (ks.getD L default).fr
  ·obtain ⟨k, q, hk, e1, e2, hq, e3⟩ := fr_link ws.net hL hf
   unfold nxtL
   rw [if_pos hf, e1, e2, Int.toNat_natCast, Int.toNat_natCast]
   have := ((end_ext (h k hk) (good_run w hk)).2).2 q
   rw [psK_out ws.net hk hq, e3] at this
   obtain ⟨t, ht⟩ := this
   exact ⟨t, by rw [List.append_assoc, ht]; rfl⟩
  ·have he := linkOk_ends ((netOk_w ws.net).lk L hL)
   have hf1 : (ks.getD L default).fr = -1 := by
    simp only [endsOk, inR, Bool.and_eq_true, decide_eq_true_eq] at he
    omega
   obtain ⟨_, _, _, _, q5, _⟩ := link_of (ws.lnk L hL)
   unfold nxtL
   rw [if_neg hf]
   have hlen := q5 hf1
   have : snL ks s L = [] := by
    unfold snL
    rw [List.drop_of_length_le (by omega)]
   rw [this, List.append_nil]
   exact List.prefix_refl _
 ·rw [List.getD_eq_getElem?_getD, List.getElem?_eq_none (by rw [ws.hl]; omega)]
  exact List.nil_prefix
theorem KI.runs (h : RunS ps ks s n u) : ∀ {js : Nat → Nat}, KI ps ks s js → ∃ js', KI ps ks u js' := by
 induction h with
 | nil => exact fun hi => ⟨_, hi⟩
 | cons hk hc _ ih => exact fun hi => ih (hi.step hk hc)
theorem KI.runsLe (w : LstW ps ks H rounds) (h : RunS ps ks s n u) : ∀ {js : Nat → Nat}, KI ps ks s js → LeL s.2.2.1 H → LeL u.2.2.1 H := by
 induction h with
 | nil => exact fun _ hl => hl
 | @cons s u n k hk hc _ ih =>
  intro js hi hl
  refine ih (hi.step hk hc) (le_sent (okS_next hi.ok hk hc) w (js := fun j => if j = k then js j + 1 else js j) fun j hj => ?_)
  have sw := step_w hi.ok hk hc
  by_cases e : j = k
  ·subst e
   rw [if_pos rfl, sw.next]
   exact (((hi.run j hj).snoc sw.stop).more (insK_less hl) (ub_ps0 _ _ _)).1
  ·rw [if_neg e, sw.other j hj e]
   exact ((hi.run j hj).more (insK_less hl) (ub_ps0 _ _ _)).1
theorem s0_le (w : LstW ps ks H rounds) : LeL (s0 ps ks).2.2.1 H := w.above 0
theorem quiet_w (hi : KI ps ks s js) (w : LstW ps ks H rounds) (hle : LeL s.2.2.1 H) (ht : s.2.2.2 < 20000) (hq : ∀ k < ps.length, canS ps ks s k = false) : ∀ k < ps.length, (wAtK ps s.1 k).1 = 0 ∨ ((wAtK ps s.1 k).1 = 2 ∧ (s.2.1.getD (lnkK ps ks s.1 k).toNat default).length = 0) := by
 intro k hk
 have ws := stOk_w hi.ok
 have hcan := hq k hk
 unfold canS at hcan
 rcases w_cases (ps := ps) (xs := s.1) k with c0 | c0 | c0 | c0
 ·exact .inl c0
 ·rw [can_1 c0 ht] at hcan; cases hcan
 ·rw [can_2 c0 ht, decide_eq_false_iff_not] at hcan
  exact .inr ⟨c0, by omega⟩
 ·exfalso
  rw [can_3 c0 ht, decide_eq_false_iff_not] at hcan
  obtain ⟨p0, p1, g1, g2⟩ := want_three ws hk c0
  obtain ⟨p, hp⟩ : ∃ p : Nat, (wAtK ps s.1 k).2 = (p : Int) := ⟨(wAtK ps s.1 k).2.toNat, by omega⟩
  have hLn : (lnkK ps ks s.1 k).toNat = lFr ks k p := by rw [lnk_3 c0, hp]; rfl
  rw [hp] at p1
  obtain ⟨a1, a2, a3⟩ := lFr_at ws.net hk p1
  rw [hLn] at hcan
  have hg := hi.hrun hle hk
  obtain ⟨hj, hext⟩ := end_ext hg (good_run w hk)
  have hgo := hg.go (3000 - js k)
  rw [show js k + (3000 - js k) = Int.toNat 3000 by show _ = 3000; omega] at hgo
  have hse := sent_eq hi.ok a1
  have hou := psK_out (s := s) ws.net hk p1
  have hwP : (wP (ps.getD k default).l (psK ps ks s k)).1 = 3 := c0
  have hwQ : (wP (ps.getD k default).l (psK ps ks s k)).2.toNat = p := by rw [w_eq, hp]; rfl
  have hbad := good_run w hk
  unfold runK at hbad
  rw [hgo] at hbad
  cases hst : stopP (ps.getD k default).l (insK ps ks H k) (psK ps ks s k) with
  | true =>
   rw [goP_stop hst] at hbad
   unfold badR at hbad
   simp only [hwP] at hbad
   cases hbad
  | false =>
   cases hm : 3000 - js k with
   | zero =>
    rw [hm, goP_zero hst] at hbad
    cases hbad
   | succ m =>
    rw [hm, goP_succ hst] at hgo
    have h1 := (goP_ext (l := (ps.getD k default).l) (ins := insK ps ks H k) m (nextP (ps.getD k default).l (insK ps ks H k) (psK ps ks s k))).2 p
    rw [← hgo] at h1
    have hnx : (nextP (ps.getD k default).l (insK ps ks H k) (psK ps ks s k)).outs.getD p default = snL ks s (lFr ks k p) ++ [stepW (xP (ps.getD k default).l (psK ps ks s k)) (psK ps ks s k).rs] := by
     have hpb := pg_bd (netOk_w ws.net).pg hk
     simp only [nextP, if_pos hwP, hwQ]
     rw [gset_any, if_pos ⟨rfl, by show p < ((List.range (ps.getD k default).o.toNat).map (fun q => snL ks s (lFr ks k q))).length; rw [List.length_map, List.length_range]; omega⟩, hou]
    rw [hnx] at h1
    have h2 := h1.length_le
    rw [List.length_append, List.length_singleton] at h2
    have hH : H.getD (lFr ks k p) default = nxtL ps ks H (ks.getD (lFr ks k p) default) := by rw [← nxts_get (ps := ps) (hs := H) a1, w.fix]
    have hs4 := strLen (List.all_eq_true.1 w.str _ (getD_mem0 (l := H) (k := lFr ks k p) (by rw [w.len]; exact a1)))
    rw [hH] at hs4
    unfold nxtL at hs4
    rw [if_pos (by omega), a2, a3, Int.toNat_natCast, Int.toNat_natCast, List.length_append] at hs4
    have h3 : (snL ks s (lFr ks k p)).length + 1 ≤ ((outK ps ks H k).getD p default).length := h2
    rw [hse, List.length_append] at hcan
    omega
theorem stop_at (hi : KI ps ks s js) (hk : k < ps.length) (h : (wAtK ps s.1 k).1 = 0 ∨ ((wAtK ps s.1 k).1 = 2 ∧ (s.2.1.getD (lnkK ps ks s.1 k).toNat default).length = 0)) : stopP (ps.getD k default).l (insK ps ks s.2.2.1 k) (psK ps ks s k) = true := by
 have ws := stOk_w hi.ok
 rcases h with h | ⟨h, h2⟩
 ·unfold stopP
  rw [w_eq, h]
  rfl
 ·obtain ⟨p0, p1, g1, g2⟩ := want_two ws hk h
  obtain ⟨p, hp⟩ : ∃ p : Nat, (wAtK ps s.1 k).2 = (p : Int) := ⟨(wAtK ps s.1 k).2.toNat, by omega⟩
  have hLn : (lnkK ps ks s.1 k).toNat = lTo ks k p := by rw [lnk_2 h, hp]; rfl
  rw [hp] at p1
  rw [hLn] at h2
  have hwP : (wP (ps.getD k default).l (psK ps ks s k)).1 = 2 := h
  have hwQ : (wP (ps.getD k default).l (psK ps ks s k)).2.toNat = p := by rw [w_eq, hp]; rfl
  rw [stopP_two (p := (wP (ps.getD k default).l (psK ps ks s k)).2) hwP rfl, hwQ, psK_used ws.net hk p1, insK_at hk p1]
  unfold rdL
  rw [h2]
  simp
theorem run_at (hi : KI ps ks s js) (hj : js k ≤ 3000) (hk : k < ps.length) (hst : stopP (ps.getD k default).l (insK ps ks s.2.2.1 k) (psK ps ks s k) = true) : runK ps ks s.2.2.1 k = (psK ps ks s k, wAtK ps s.1 k) := by
 have := (hi.run k hk).go (3000 - js k)
 rw [show js k + (3000 - js k) = Int.toNat 3000 by show _ = 3000; omega] at this
 unfold runK
 rw [this, goP_stop hst, w_eq]
theorem quiet_fix (hi : KI ps ks s js) (hj : ∀ k < ps.length, js k ≤ 3000) (hst : ∀ k < ps.length, stopP (ps.getD k default).l (insK ps ks s.2.2.1 k) (psK ps ks s k) = true) : nxts ps ks s.2.2.1 = s.2.2.1 := by
 have ws := stOk_w hi.ok
 refine List.ext_getElem (by rw [nxts_len, ws.hl]) fun L h1 h2 => ?_
 have hL : L < ks.length := by rw [nxts_len] at h1; exact h1
 have e1 : (nxts ps ks s.2.2.1)[L] = (nxts ps ks s.2.2.1).getD L default := by simp [List.getD_eq_getElem?_getD, h1]
 have e2 : s.2.2.1[L] = s.2.2.1.getD L default := by simp [List.getD_eq_getElem?_getD, h2]
 rw [e1, e2, nxts_get hL, sent_eq hi.ok hL]
 unfold nxtL
 by_cases hf : 0 ≤ (ks.getD L default).fr
 ·obtain ⟨k, q, hk, f1, f2, hq, f3⟩ := fr_link ws.net hL hf
  rw [if_pos hf, f1, f2, Int.toNat_natCast, Int.toNat_natCast]
  unfold outK
  rw [run_at hi (hj k hk) hk (hst k hk), psK_out ws.net hk hq, f3]
 ·have he := linkOk_ends ((netOk_w ws.net).lk L hL)
  have hf1 : (ks.getD L default).fr = -1 := by
   simp only [endsOk, inR, Bool.and_eq_true, decide_eq_true_eq] at he
   omega
  obtain ⟨_, _, _, _, q5, _⟩ := link_of (ws.lnk L hL)
  rw [if_neg hf]
  have hlen := q5 hf1
  have : snL ks s L = [] := by
   unfold snL
   rw [List.drop_of_length_le (by omega)]
  rw [this, List.append_nil]
theorem it_below {g : List (List Int)} (hf : nxts ps ks g = g) : ∀ n, LeL (itS ps ks (tkL ks) n) g
 | 0 => by
  have := tkL_less (ps := ps) (ks := ks) g
  rw [hf] at this
  exact this
 | n + 1 => by
  have := nxts_less (ps := ps) (ks := ks) (it_below hf n)
  rw [hf] at this
  exact this
theorem quiet_all (hi : KI ps ks s js) (w : LstW ps ks H rounds) (hle : LeL s.2.2.1 H) (ht : s.2.2.2 < 20000) (hq : ∀ k < ps.length, canS ps ks s k = false) : s.2.2.1 = H ∧ ∀ k < ps.length, runK ps ks H k = (psK ps ks s k, wAtK ps s.1 k) ∧ ((wAtK ps s.1 k).1 = 2 → (s.2.1.getD (lnkK ps ks s.1 k).toNat default).length = 0) := by
 have hw := quiet_w hi w hle ht hq
 have hst : ∀ k < ps.length, stopP (ps.getD k default).l (insK ps ks s.2.2.1 k) (psK ps ks s k) = true := fun k hk => stop_at hi hk (hw k hk)
 have hj := hi.short w hle
 have hfix := quiet_fix hi hj hst
 have heq : s.2.2.1 = H := by
  obtain ⟨r, _, _, e, _⟩ := w.it
  refine hle.antisymm ?_
  have := it_below hfix r
  rw [← e] at this
  exact this
 refine ⟨heq, fun k hk => ⟨?_, fun h2 => ?_⟩⟩
 ·have := run_at hi (hj k hk) hk (hst k hk)
  rw [heq] at this
  exact this
 ·rcases hw k hk with h | h
  ·omega
  ·exact h.2
theorem time_w (hi : KI ps ks s js) (w : LstW ps ks H rounds) (hle : LeL s.2.2.1 H) (h6 : ps.length ≤ 6) : s.2.2.2 < 20000 := by
 have := totJ_le (js := js) ps.length (hi.short w hle)
 rw [hi.tm]
 omega
end
end Go.Proofs.Ytimgfinlbhodhaa.Ab
namespace Go.Proofs.Ytimgfinlbhodhaa.Ab
open Go
set_option linter.unusedVariables false
set_option linter.unusedSimpArgs false
def Hid (p : Prop) : Prop := p
theorem hid {p : Prop} (h : p) : Hid p := h
theorem Hid.un {p : Prop} (h : Hid p) : p := h
section
variable {ps : List PG} {ks : List LK} {s : SX} {k : Nat} {js : Nat → Nat} {H : List (List Int)} {rounds : Int}
theorem st_bnds (hok : okS ps ks s) : XW s.1 ∧ s.1.length ≤ 12 ∧ LW s.2.1 ∧ s.2.1.length ≤ 30 ∧ LW s.2.2.1 ∧ s.2.2.1.length ≤ 30 := by
 have w := stOk_w hok
 have hp := (netOk_w w.net).pl
 have hk := (netOk_w w.net).kl
 have hx := w.xl
 have hq := w.ql
 have hh := w.hl
 refine ⟨fun x hx2 => ?_, by omega, fun r hr => ?_, by omega, fun r hr => ?_, by omega⟩
 ·obtain ⟨j, hj, rfl⟩ := List.getElem_of_mem hx2
  have := actOk_len (w.act j (by omega))
  rw [show s.1.getD j default = s.1[j] by simp [List.getD_eq_getElem?_getD, hj]] at this
  omega
 ·obtain ⟨j, hj, rfl⟩ := List.getElem_of_mem hr
  have := strLen (link_of (w.lnk j (by omega))).1
  rw [show s.2.1.getD j default = s.2.1[j] by simp [List.getD_eq_getElem?_getD, hj]] at this
  omega
 ·obtain ⟨j, hj, rfl⟩ := List.getElem_of_mem hr
  have := strLen (link_of (w.lnk j (by omega))).2.1
  rw [show s.2.2.1.getD j default = s.2.2.1[j] by simp [List.getD_eq_getElem?_getD, hj]] at this
  omega
theorem first_all {t : Int} {xs : List AT} {qs hs : List (List Int)} (h : firstC ps ks xs qs hs t = true) : ∀ k < ps.length, canS ps ks (xs, qs, hs, t) k = false := by
 intro k hk
 have := all_range.1 h k hk
 unfold canS
 simpa using this
theorem first_of {t : Int} {xs : List AT} {qs hs : List (List Int)} (h : ∀ k < ps.length, canS ps ks (xs, qs, hs, t) k = false) : firstC ps ks xs qs hs t = true := all_range.2 fun k hk => by
 have := h k hk
 unfold canS at this
 rw [this]; rfl
end
end Go.Proofs.Ytimgfinlbhodhaa.Ab
