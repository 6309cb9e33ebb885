/- More tokens in, more tokens out: plain law. -/
import Derived.Test.YtimgfinlbhodhaaAbObs
namespace Go.Proofs.Ytimgfinlbhodhaa.Ab
open Go
set_option linter.unusedVariables false
set_option linter.unusedSimpArgs false
def LeL (g h : List (List Int)) : Prop := g.length = h.length ∧ ∀ k, g.getD k default <+: h.getD k default
theorem LeL.refl (g : List (List Int)) : LeL g g := ⟨rfl, fun k => List.prefix_refl _⟩
theorem LeL.trans {a b c : List (List Int)} (h : LeL a b) (k : LeL b c) : LeL a c := ⟨h.1.trans k.1, fun i => (h.2 i).trans (k.2 i)⟩
theorem gset_any {α : Type} [Inhabited α] {l : List α} {i k : Nat} {x : α} : (l.set i x).getD k default = if i = k ∧ i < l.length then x else l.getD k default := by
 simp only [List.getD_eq_getElem?_getD, List.getElem?_set]
 by_cases h : i = k
 ·subst h
  by_cases h2 : i < l.length
  ·simp [h2]
  ·simp [h2]
 ·simp [h]
theorem pfx_all {a b : List Int} {p : Int → Bool} (h : a <+: b) (hb : b.all p = true) : a.all p = true := by
 rw [List.all_eq_true] at hb ⊢
 exact fun x hx => hb x (h.subset hx)
theorem strOk_pfx {a b : List Int} (h : a <+: b) (hb : strOk b = true) : strOk a = true := by
 have hl := h.length_le
 simp only [strOk, Bool.and_eq_true, decide_eq_true_eq] at hb ⊢
 exact ⟨pfx_all h hb.1, by omega⟩
theorem begB_pfx {a b : List Int} : begB a b = true ↔ a <+: b := by
 unfold begB
 simp only [Bool.and_eq_true, decide_eq_true_eq]
 constructor
 ·rintro ⟨h1, h2⟩; exact ⟨b.drop a.length, by rw [← h2, List.length_take, Nat.min_eq_left h1]; exact List.take_append_drop _ _⟩
 ·rintro h; exact ⟨h.length_le, (List.prefix_iff_eq_take.1 h).symm⟩
section
variable {l : List I4} {ins less : List (List Int)}
theorem next_ext (s : PS) : LeL s.outs (nextP l ins s).outs := by
 unfold nextP
 simp only
 split
 ·refine ⟨by simp, fun k => ?_⟩
  rw [gset_any]
  split
  ·rename_i h; rw [h.1]; exact List.prefix_append _ _
  ·exact List.prefix_refl _
 ·exact LeL.refl _
theorem goP_ext : ∀ (n : Nat) (s : PS), LeL s.outs (goP l ins n s).1.outs
 | 0, s => by unfold goP; split <;> exact LeL.refl _
 | n + 1, s => by
  unfold goP
  split
  ·exact LeL.refl _
  ·exact (next_ext s).trans (goP_ext n _)
def UB (ins : List (List Int)) (s : PS) : Prop := ∀ k : Nat, 0 ≤ s.used.getD k default ∧ s.used.getD k default ≤ ((ins.getD k default).length : Int)
theorem less_next {s : PS} (hl : ∀ k : Nat, less.getD k default <+: ins.getD k default) (hu : UB less s) (hs : stopP l less s = false) : stopP l ins s = false ∧ nextP l less s = nextP l ins s ∧ UB less (nextP l less s) := by
 obtain ⟨n0, n2, n3⟩ := stopP_false hs
 have hlen : (less.getD (wP l s).2.toNat default).length ≤ (ins.getD (wP l s).2.toNat default).length := (hl _).length_le
 have hub := hu (wP l s).2.toNat
 have hst : stopP l ins s = false := by
  unfold stopP
  simp only [Bool.or_eq_false_iff, beq_eq_false_iff_ne, ne_eq, Bool.and_eq_false_imp, beq_iff_eq]
  refine ⟨⟨n0, fun hw => ?_⟩, fun hw => ?_⟩
  ·have := n2 hw; omega
  ·have := n3 hw; omega
 have htok : tokP l less s = tokP l ins s := by
  unfold tokP
  split
  ·rename_i hw
   have hne := n2 hw
   obtain ⟨t, ht⟩ := hl (wP l s).2.toNat
   have hlt : (s.used.getD (wP l s).2.toNat default).toNat < (less.getD (wP l s).2.toNat default).length := by omega
   rw [← ht]
   simp only [List.getD_eq_getElem?_getD (l := less.getD _ _ ++ t), List.getElem?_append_left hlt]
   rw [List.getD_eq_getElem?_getD (l := less.getD _ _)]
  ·rfl
 refine ⟨hst, by unfold nextP; rw [htok], fun k => ?_⟩
 simp only [nextP]
 split
 ·rename_i hw
  rw [gset_any]
  split
  ·rename_i h
   have hne := n2 hw
   rw [← h.1]
   omega
  ·exact hu k
 ·exact hu k
theorem goP_less : ∀ (n : Nat) (s : PS), (∀ k : Nat, less.getD k default <+: ins.getD k default) → UB less s →
  LeL (goP l less n s).1.outs (goP l ins n s).1.outs ∧ ((goP l less n s).2.1 = 1 → (goP l ins n s).2.1 = 1) ∧ ((goP l less n s).2.1 = 3 → (goP l ins n s).2.1 = 3) := by
 intro n
 induction n with
 | zero =>
  intro s hl hu
  cases hs : stopP l less s with
  | true =>
   rw [goP_stop hs]
   refine ⟨goP_ext 0 s, fun h1 => ?_, fun h3 => ?_⟩
   ·exfalso
    unfold stopP at hs
    simp only at h1
    rw [h1] at hs
    simp at hs
   ·have : stopP l ins s = true := by
     unfold stopP at hs ⊢
     simp only at h3
     rw [h3] at hs ⊢
     simpa using hs
    rw [goP_stop this]; exact h3
  | false =>
   obtain ⟨h1, _, _⟩ := less_next hl hu hs
   rw [goP_zero hs, goP_zero h1]
   exact ⟨LeL.refl _, fun h => h, fun h => by cases h⟩
 | succ n ih =>
  intro s hl hu
  cases hs : stopP l less s with
  | true =>
   rw [goP_stop hs]
   refine ⟨goP_ext (n + 1) s, fun h1 => ?_, fun h3 => ?_⟩
   ·exfalso
    unfold stopP at hs
    simp only at h1
    rw [h1] at hs
    simp at hs
   ·have : stopP l ins s = true := by
     unfold stopP at hs ⊢
     simp only at h3
     rw [h3] at hs ⊢
     simpa using hs
    rw [goP_stop this]; exact h3
  | false =>
   obtain ⟨h1, h2, h3⟩ := less_next hl hu hs
   rw [goP_succ hs, goP_succ h1, ← h2]
   exact ih _ hl h3
theorem ub_ps0 (ins : List (List Int)) (i o : Int) : UB ins (ps0 i o) := fun k => by
 have : (ps0 i o).used.getD k default = 0 := by
  show (List.replicate i.toNat (0 : Int)).getD k default = 0
  rw [List.getD_eq_getElem?_getD, List.getElem?_replicate]
  split <;> rfl
 rw [this]
 omega
end
section
variable {ps : List PG} {ks : List LK} {g h : List (List Int)} {p : Nat}
theorem insK_less (hl : LeL g h) (k : Nat) : (insK ps ks g p).getD k default <+: (insK ps ks h p).getD k default := by
 unfold insK insN
 by_cases hk : k < (ps.getD p default).i.toNat
 ·have e : ∀ hs : List (List Int), (List.map (insAt ks hs p) (List.range (ps.getD p default).i.toNat)).getD k default = insAt ks hs p k := fun hs => by
   rw [List.getD_eq_getElem?_getD, List.getElem?_map, List.getElem?_range hk]
   rfl
  rw [e, e]
  exact hl.2 _
 ·simp only [List.getD_eq_getElem?_getD, List.getElem?_map]
  rw [List.getElem?_eq_none (by simpa using hk)]
  exact List.prefix_refl _
theorem outK_less (hl : LeL g h) : LeL (outK ps ks g p) (outK ps ks h p) := (goP_less _ _ (insK_less hl) (ub_ps0 _ _ _)).1
theorem nxtL_less (hl : LeL g h) (x : LK) : nxtL ps ks g x <+: nxtL ps ks h x := by
 unfold nxtL
 split
 ·obtain ⟨t, ht⟩ := (outK_less (ps := ps) (ks := ks) (p := x.fr.toNat) hl).2 x.ou.toNat
  exact ⟨t, by rw [List.append_assoc, ht]⟩
 ·exact List.prefix_refl _
theorem nxts_get2 (g : List (List Int)) (k : Nat) : (nxts ps ks g).getD k default = if k < ks.length then nxtL ps ks g (ks.getD k default) else [] := by
 split
 ·rename_i hk; exact nxts_get hk
 ·rename_i hk
  rw [List.getD_eq_getElem?_getD, List.getElem?_eq_none (by rw [nxts_len]; omega)]
  rfl
theorem nxts_less (hl : LeL g h) : LeL (nxts ps ks g) (nxts ps ks h) := by
 refine ⟨by rw [nxts_len, nxts_len], fun k => ?_⟩
 rw [nxts_get2, nxts_get2]
 split
 ·exact nxtL_less hl _
 ·exact List.prefix_refl _
theorem nxt_tk (g : List (List Int)) (x : LK) : x.tk <+: nxtL ps ks g x := by
 unfold nxtL
 split
 ·exact List.prefix_append _ _
 ·exact List.prefix_refl _
theorem tkL_get2 (k : Nat) : (tkL ks).getD k default = if k < ks.length then (ks.getD k default).tk else [] := by
 unfold tkL
 split
 ·rename_i hk; simp [List.getD_eq_getElem?_getD, hk]
 ·rename_i hk
  rw [List.getD_eq_getElem?_getD, List.getElem?_eq_none (by simpa using hk)]
  rfl
theorem tkL_less (g : List (List Int)) : LeL (tkL ks) (nxts ps ks g) := by
 refine ⟨by rw [tkL_len, nxts_len], fun k => ?_⟩
 rw [tkL_get2, nxts_get2]
 split
 ·exact nxt_tk g _
 ·exact List.prefix_refl _
theorem rndOk_w : rndOk ps ks g = true ↔ (∀ k < ps.length, badR (runK ps ks g k) = false) ∧ ∀ k < ks.length, strOk (nxtL ps ks g (ks.getD k default)) = true := by
 unfold rndOk runsOk
 simp only [Bool.and_eq_true, List.all_eq_true, List.mem_range, Bool.not_eq_true']
 constructor
 ·rintro ⟨h1, h2⟩
  refine ⟨h1, fun k hk => ?_⟩
  rw [← nxts_get (ps := ps) (hs := g) hk]
  exact h2 _ (getD_mem0 (by rw [nxts_len]; exact hk))
 ·rintro ⟨h1, h2⟩
  refine ⟨h1, fun r hr => ?_⟩
  obtain ⟨x, hx, rfl⟩ := List.mem_map.1 hr
  obtain ⟨k, hk, rfl⟩ := List.getElem_of_mem hx
  have := h2 k hk
  rwa [show ks.getD k default = ks[k] by simp [List.getD_eq_getElem?_getD, hk]] at this
def itS (ps : List PG) (ks : List LK) (g : List (List Int)) : Nat → List (List Int)
 | 0 => g
 | n + 1 => nxts ps ks (itS ps ks g n)
theorem itS_shift (n : Nat) : itS ps ks (nxts ps ks g) n = itS ps ks g (n + 1) := by
 induction n with
 | zero => rfl
 | succ n ih => rw [itS, ih]; rfl
theorem rnd_yes (h : rndOk ps ks g = true) : rndO ps ks g = (nxts ps ks g, true) := by unfold rndO; rw [if_pos h]
theorem rnd_no (h : rndOk ps ks g = false) : rndO ps ks g = ([], false) := by unfold rndO; rw [if_neg (by rw [h]; simp)]
theorem leastG_it : ∀ (n : Nat) (g : List (List Int)), (leastG ps ks n g).2.2 = true → ∃ r, r < n ∧ (leastG ps ks n g).1 = itS ps ks g r ∧ (leastG ps ks n g).2.1 = 301 - (n : Int) + r ∧ (∀ i ≤ r, rndOk ps ks (itS ps ks g i) = true) ∧ nxts ps ks (itS ps ks g r) = itS ps ks g r := by
 intro n
 induction n with
 | zero => intro g h; cases h
 | succ n ih =>
  intro g h
  cases hr : rndOk ps ks g with
  | false =>
   rw [least_bad (by omega) (by rw [rnd_no hr])] at h
   cases h
  | true =>
   have hy := rnd_yes hr
   by_cases he : nxts ps ks g = g
   ·rw [least_fix (by omega) (by rw [hy]) (by rw [hy]; exact he)]
    refine ⟨0, by omega, rfl, by simp, fun i hi => ?_, he⟩
    rw [show i = 0 by omega]; exact hr
   ·have hg := least_go (n := n + 1) (by omega) (by rw [hy]) (by rw [hy]; exact he)
    rw [hy] at hg
    simp only [Nat.add_sub_cancel] at hg
    rw [hg] at h ⊢
    obtain ⟨r, h1, h2, h3, h4, h5⟩ := ih _ h
    rw [itS_shift] at h2 h5
    refine ⟨r + 1, by omega, h2, by rw [h3]; omega, fun i hi => ?_, h5⟩
    cases i with
    | zero => exact hr
    | succ i => rw [← itS_shift]; exact h4 i (by omega)
structure LstW (ps : List PG) (ks : List LK) (h : List (List Int)) (rounds : Int) : Prop where
 net : netOk ps ks = true
 len : h.length = ks.length
 str : h.all strOk = true
 fix : nxts ps ks h = h
 ok : rndOk ps ks h = true
 it : ∃ r : Nat, r < 300 ∧ rounds = (r : Int) + 1 ∧ h = itS ps ks (tkL ks) r ∧ ∀ i ≤ r, rndOk ps ks (itS ps ks (tkL ks) i) = true
theorem least_w (hb : (leastO ps ks).2.2 = true) : LstW ps ks (leastO ps ks).1 (leastO ps ks).2.1 := by
 obtain ⟨h1, h2, h3⟩ := leastO_ok hb
 unfold leastO at hb h2 h3 ⊢
 rw [if_pos h1] at hb h2 h3 ⊢
 obtain ⟨r, q1, q2, q3, q4, q5⟩ := leastG_it _ _ hb
 exact ⟨h1, h2, h3, by rw [q2]; exact q5, by rw [q2]; exact q4 r (Nat.le_refl _), r, q1, by rw [q3]; omega, q2, q4⟩
theorem LstW.above {rounds : Int} (w : LstW ps ks h rounds) : ∀ n, LeL (itS ps ks (tkL ks) n) h := by
 intro n
 induction n with
 | zero => rw [← w.fix]; exact tkL_less _
 | succ n ih => rw [← w.fix]; exact nxts_less ih
end
end Go.Proofs.Ytimgfinlbhodhaa.Ab
