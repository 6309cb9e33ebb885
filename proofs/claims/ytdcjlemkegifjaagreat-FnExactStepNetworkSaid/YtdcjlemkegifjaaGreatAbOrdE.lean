/- Drawn regions of which one operation is told by what it does, not by a rule that computes. -/
import Derived.Test.YtdcjlemkegifjaaGreatAbOrdM
import Derived.Test.YtdcjlemkegifjaaGreatAbFreeze
namespace Go.Proofs.YtdcjlemkegifjaaGreat.Ab
open Go
set_option linter.unusedVariables false
set_option linter.unusedSimpArgs false
section
variable {c : Cx} {K : Kn} {k : List It} {all : Array Oper} {m : Nat} {st st' s1 s2 : St}
def SemE (c : Cx) (k : List It) (all : Array Oper) (fuel : Nat) (listed : Array Bool) (o : Oper) (st : St) : Prop :=
 G c (.ops all [o] :: .upto (fun a w => wpAny c.P .any all (cont c.P k c.Q) fuel listed a w) :: k) st
def AnyE (c : Cx) (K : Kn) (k : List It) (all : Array Oper) (m : Nat) : Nat → Array Bool → St → Prop
 | 0, listed, st => Region.ready .any all listed = [] ∧ G c k st
 | fuel + 1, listed, st => (Region.ready .any all listed = [] → G c k st) ∧
   ∀ i ∈ Region.ready .any all listed, (∃ o st', all[i]? = some o ∧ dstep c.T K all st o = some st' ∧ AnyE c K k all m fuel (listed.setIfInBounds i true) st') ∨
    (i = m ∧ ∃ o, all[i]? = some o ∧ o.guard = none ∧ SemE c k all fuel (listed.setIfInBounds i true) o st)
theorem AnyE.same : ∀ {fuel : Nat} {listed : Array Bool} {st st' : St}, Same st st' → AnyE c K k all m fuel listed st → AnyE c K k all m fuel listed st'
 | 0, _, _, _, h, H => ⟨H.1, G.same h H.2⟩
 | fuel + 1, listed, st, st', h, H => ⟨fun h0 => G.same h (H.1 h0), fun i hi => by
   rcases H.2 i hi with ⟨o, s1, h1, h2, h3⟩ | ⟨h1, o, h2, h3, h4⟩
   ·obtain ⟨s2, h4, h5⟩ := dstep_same h h2
    exact .inl ⟨o, s2, h1, h4, AnyE.same h5 h3⟩
   ·exact .inr ⟨h1, o, h2, h3, G.same h h4⟩⟩
theorem AnyE.take {i : Nat} {oi : Oper} (hi : all[i]? = some oi) {D : List Nat} (hmD : m ∈ D)
  (hD : ∀ j oj, all[j]? = some oj → j ∈ D → ∃ e ∈ oj.after, Region.binds .any e = true ∧ (e.on = i ∨ e.on ∈ D)) :
  ∀ (fuel : Nat) (listed : Array Bool) (st s1 : St), (∀ j ∈ D, listed.getD j false = false) → listed.getD i false = false →
   (∀ j oj, all[j]? = some oj → j ≠ i → j ∉ D → listed.getD j true = false → ((rdr oi.op = true ∧ mutOp oj.op = false) ∨ rdr0 oi.op = true) ∧ oi.apart all oj = true) →
   i ∈ Region.ready .any all listed → dstep c.T K all st oi = some s1 → AnyE c K k all m fuel (listed.setIfInBounds i true) s1 → AnyE c K k all m (fuel + 1) listed st := by
 intro fuel
 induction fuel with
 | zero =>
  intro listed st s1 _ _ _ hr hs H
  refine ⟨fun h => (by rw [h] at hr; cases hr), fun j hj => ?_⟩
  by_cases hji : j = i
  ·subst hji; exact .inl ⟨oi, s1, hi, hs, H⟩
  ·have := ready_mono hj hji
   rw [H.1] at this
   cases this
 | succ fuel ih =>
  intro listed st s1 hun hni hfree hr hs H
  refine ⟨fun h => (by rw [h] at hr; cases hr), fun j hj => ?_⟩
  by_cases hji : j = i
  ·subst hji; exact .inl ⟨oi, s1, hi, hs, H⟩
  ·obtain ⟨hjun, oj', hoj', hall⟩ := mem_ready.1 hj
   have hjD : j ∉ D := fun hjD => by
    obtain ⟨e, he, hb, hor⟩ := hD j oj' hoj' hjD
    have := hall e he hb
    rcases hor with h | h
    ·rw [h, hni] at this; cases this
    ·rw [hun _ h] at this; cases this
   rcases H.2 j (ready_mono hj hji) with ⟨oj, s2, hoj, h2, h3⟩ | ⟨h, _⟩
   ·obtain ⟨c1, c3⟩ := hfree j oj hoj hji hjD hjun
    obtain ⟨s', s2', d1, d2, d3⟩ := dstep_comm c1 c3 hs h2
    refine .inl ⟨oj, s', hoj, d1, ih (listed.setIfInBounds j true) s' s2' ?_ ?_ ?_ (ready_mono hr (Ne.symm hji)) d2 ?_⟩
    ·intro k hk
     rw [getD_set_ne false (fun h => hjD (by rw [h]; exact hk))]
     exact hun k hk
    ·rw [getD_set_ne false hji]; exact hni
    ·intro k ok hk hki hkD hkun
     refine hfree k ok hk hki hkD ?_
     by_cases hjk : j = k
     ·subst hjk; exact hjun
     ·rw [getD_set_ne true hjk] at hkun; exact hkun
    ·rw [Array.setIfInBounds_comm _ _ hji]
     exact AnyE.same d3 h3
   ·exact absurd (h ▸ hmD) hjD
theorem AnyE.run (hT : c.T.ok c.P) (hK : K.ok c.P) : ∀ (fuel : Nat) {listed : Array Bool} {st : St}, AnyE c K k all m fuel listed st →
  ∀ a w φ fs, SRel c.S0 st a w φ fs → Bnd c w φ fs → wpAny c.P .any all (cont c.P k c.Q) fuel listed a w
 | 0, _, _, H, a, w, φ, fs, hr, hb => ⟨H.1, H.2 a w φ fs hr hb⟩
 | fuel + 1, listed, st, H, a, w, φ, fs, hr, hb => ⟨fun h0 => H.1 h0 a w φ fs hr hb, fun i hi => by
   rcases H.2 i hi with ⟨o, s1, h1, h2, h3⟩ | ⟨_, o, ho, g1, h4⟩
   ·unfold wpOp
    simp only [h1]
    exact dstep_run hT hK h2 hr hb (fun a' w' φ' fs' h4 h5 => AnyE.run hT hK fuel h3 a' w' φ' fs' h4 h5)
   ·have hw := h4 a w φ fs hr hb
    unfold wpOp
    simp only [ho]
    change wpList c.P all _ [o] a w at hw
    simp only [wpList] at hw
    rw [if_pos (by simp [Region.wanted, g1])] at hw ⊢
    exact hw.imp (fun hw => upto_wp hw) id⟩
def AnyF (c : Cx) (K : Kn) (k : List It) (all : Array Oper) (m : Nat) (ts : List Nat) (n : Nat) (st : St) : Prop := AnyE c K k all m n (markOf all ts) st
def takeF (all : Array Oper) (m : Nat) : List Nat → List Nat → Bool
 | _, [] => true
 | ts, i :: l => takeC all ts i && (depsOf all i).contains m && takeF all m (i :: ts) l
theorem AnyF.runP (l : List (Nat × Oper)) : ∀ {ts : List Nat} {n : Nat} {st : St}, (∀ p ∈ l, all[p.1]? = some p.2) → takeF all m ts (l.map (·.1)) = true → Ab.runP c.T K all l.length st l = (st', []) → AnyF c K k all m ((l.map (·.1)).reverse ++ ts) n st' → AnyF c K k all m ts (l.length + n) st := by
 induction l with
 | nil => intro ts n st _ _ hr h; simp only [List.length_nil, Ab.runP, Prod.mk.injEq, and_true] at hr; subst hr; simpa using h
 | cons p l ih =>
  intro ts n st hm ht hr h
  simp only [List.map_cons, takeF, Bool.and_eq_true] at ht
  simp only [List.length_cons, Ab.runP] at hr
  split at hr
  ·rename_i s hs
   have h2 := ih (ts := p.1 :: ts) (fun q hq => hm q (by simp [hq])) ht.2 hr (by simpa using h)
   have hc := ht.1.1
   simp only [takeC, Bool.and_eq_true] at hc
   obtain ⟨t1, t2, t3, t4⟩ := takeOk_spec hc.2 (hm p (by simp))
   have := AnyE.take (hm p (by simp)) (by simpa using ht.1.2) t1 _ _ _ _ t2 t3 t4 (by simpa using hc.1) hs h2
   rw [show (p :: l).length + n = l.length + n + 1 by simp; omega]
   exact this
  ·simp only [Prod.mk.injEq] at hr; exact absurd hr.2 (by simp)
theorem AnyF.go {ts : List Nat} {n : Nat} (q : Nat) (ord : List Nat) (hl : (takePk all ord).length = q) (ho : (takePk all ord).map (·.1) = ord) (ht : takeF all m ts ord = true) (hr : Ab.runP c.T K all q st (takePk all ord) = (st', [])) (h : AnyF c K k all m (ord.reverse ++ ts) n st') : AnyF c K k all m ts (q + n) st := by
 subst hl
 exact AnyF.runP _ (takePk_ok all ord) (by rw [ho]; exact ht) hr (by rw [ho]; exact h)
theorem AnyF.fork {ts : List Nat} {n j : Nat} {om oj : Oper} (hm : all[m]? = some om) (hg : om.guard = none) (hj : all[j]? = some oj) (hr : Region.ready .any all (markOf all ts) = [m, j]) (h2 : dstep c.T K all st oj = some s2)
  (k1 : SemE c k all n (markOf all (m :: ts)) om st) (k2 : AnyF c K k all m (j :: ts) n s2) : AnyF c K k all m ts (n + 1) st := by
 refine ⟨fun h => absurd h (by rw [hr]; simp), fun x hx => ?_⟩
 rw [hr] at hx
 rcases List.mem_cons.1 hx with rfl | hx
 ·exact .inr ⟨rfl, om, hm, hg, k1⟩
 ·rcases List.mem_cons.1 hx with rfl | hx
  ·exact .inl ⟨oj, s2, hj, h2, k2⟩
  ·simp at hx
theorem AnyF.one {ts : List Nat} {n : Nat} {om : Oper} (hm : all[m]? = some om) (hg : om.guard = none) (hr : Region.ready .any all (markOf all ts) = [m])
  (k1 : SemE c k all n (markOf all (m :: ts)) om st) : AnyF c K k all m ts (n + 1) st := by
 refine ⟨fun h => absurd h (by rw [hr]; simp), fun x hx => ?_⟩
 rw [hr] at hx
 obtain rfl := List.mem_singleton.1 hx
 exact .inr ⟨rfl, om, hm, hg, k1⟩
theorem AnyF.both {ts : List Nat} {n i j : Nat} {oi oj : Oper} (hi : all[i]? = some oi) (hj : all[j]? = some oj) (hr : Region.ready .any all (markOf all ts) = [i, j]) (h1 : dstep c.T K all st oi = some s1) (h2 : dstep c.T K all st oj = some s2)
  (k1 : AnyF c K k all m (i :: ts) n s1) (k2 : AnyF c K k all m (j :: ts) n s2) : AnyF c K k all m ts (n + 1) st := by
 refine ⟨fun h => absurd h (by rw [hr]; simp), fun x hx => ?_⟩
 rw [hr] at hx
 rcases List.mem_cons.1 hx with rfl | hx
 ·exact .inl ⟨oi, s1, hi, h1, k1⟩
 ·rcases List.mem_cons.1 hx with rfl | hx
  ·exact .inl ⟨oj, s2, hj, h2, k2⟩
  ·simp at hx
theorem AnyF.step {ts : List Nat} {n i : Nat} {oi : Oper} (hi : all[i]? = some oi) (hr : Region.ready .any all (markOf all ts) = [i]) (h1 : dstep c.T K all st oi = some s1)
  (k1 : AnyF c K k all m (i :: ts) n s1) : AnyF c K k all m ts (n + 1) st := by
 refine ⟨fun h => absurd h (by rw [hr]; simp), fun x hx => ?_⟩
 rw [hr] at hx
 obtain rfl := List.mem_singleton.1 hx
 exact .inl ⟨oi, s1, hi, h1, k1⟩
theorem AnyF.tri {ts : List Nat} {n i j p : Nat} {oi oj op : Oper} {s3 : St} (hi : all[i]? = some oi) (hj : all[j]? = some oj) (hp : all[p]? = some op) (hr : Region.ready .any all (markOf all ts) = [i, j, p]) (h1 : dstep c.T K all st oi = some s1) (h2 : dstep c.T K all st oj = some s2) (h3 : dstep c.T K all st op = some s3)
  (k1 : AnyF c K k all m (i :: ts) n s1) (k2 : AnyF c K k all m (j :: ts) n s2) (k3 : AnyF c K k all m (p :: ts) n s3) : AnyF c K k all m ts (n + 1) st := by
 refine ⟨fun h => absurd h (by rw [hr]; simp), fun x hx => ?_⟩
 rw [hr] at hx
 simp only [List.mem_cons, List.not_mem_nil, or_false] at hx
 rcases hx with rfl | rfl | rfl
 ·exact .inl ⟨oi, s1, hi, h1, k1⟩
 ·exact .inl ⟨oj, s2, hj, h2, k2⟩
 ·exact .inl ⟨op, s3, hp, h3, k3⟩
theorem AnyF.sem {ts : List Nat} {n : Nat} (hT : c.T.ok c.P) (hK : K.ok c.P) (h : AnyL c K k all ts n st) : G c (.ops all [] :: .upto (fun a w => wpAny c.P .any all (cont c.P k c.Q) n (markOf all ts) a w) :: k) st :=
 fun a w φ fs h1 h2 => AnyA.run hT hK n h a w φ fs h1 h2
theorem G.drawF (hm : c.P.follows .mixedOrders = true) (hT : c.T.ok c.P) (hK : K.ok c.P) {id : Nat} (m n : Nat) (h : AnyF c K k all m [] n st) (hn : n = all.size) : G c (.code (.region id all true) :: k) st := by
 subst hn
 intro a w φ fs hr hb
 refine wp_region_any hm ?_
 refine AnyE.run hT hK _ h a { w with drawn := w.drawn + 1 } φ fs ?_ ?_
 ·have hf : Fr (fun _ => False) w { w with drawn := w.drawn + 1 } := ⟨rfl, rfl, rfl, Nat.le_refl _, fun _ _ _ => rfl⟩
  exact ⟨hr.defers, hr.size, fun i => (hr.env i).frame hf (fun b hb => .inl hb) (fun _ h => h.elim) (Ext.refl _) (by simp), hr.heap.frame hf (fun b hb => .inl hb) (fun _ h => h.elim) (Ext.refl _) (fun _ _ h => h), hr.nodup, hr.apart, hr.low⟩
 ·exact ⟨hb.1.trans (T' := fun _ => False) ⟨rfl, rfl, rfl, Nat.le_refl _, fun _ _ _ => rfl⟩ (fun _ h => h.elim), hb.2.1, hb.2.2⟩
end
end Go.Proofs.YtdcjlemkegifjaaGreat.Ab
