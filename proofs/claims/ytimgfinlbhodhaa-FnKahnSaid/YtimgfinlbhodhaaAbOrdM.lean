/- Drawn regions of which one operation calls a function that writes its caller's memory, and the others that may come before it read alone. -/
import Derived.Test.YtimgfinlbhodhaaFwB
namespace Go.Proofs.Ytimgfinlbhodhaa.Ab
open Go
set_option linter.unusedVariables false
set_option linter.unusedSimpArgs false
def tmpAll (o : Oper) (f : Nat → Bool) : Bool := o.op.operands.all fun y => match y with
 | .tmp t => f t
 | _ => true
theorem tmpAll_spec {o : Oper} {f : Nat → Bool} (h : tmpAll o f = true) {t : Nat} (ht : Operand.tmp t ∈ o.op.operands) : f t = true := by
 unfold tmpAll at h
 rw [Array.all_eq_true'] at h
 exact h _ ht
def onB (o : Oper) (i : Nat) : Bool := o.after.any fun e => Region.binds .any e && e.on == i
theorem onB_spec {o : Oper} {i : Nat} (h : onB o i = true) : ∃ e ∈ o.after, Region.binds .any e = true ∧ e.on = i := by
 obtain ⟨e, he, hb⟩ := Array.any_eq_true'.1 h
 simp only [Bool.and_eq_true, beq_iff_eq] at hb
 exact ⟨e, he, hb.1, hb.2⟩
def lookOk (all : Array Oper) (R : List Nat) (i : Nat) : Bool := match all[i]? with
 | some o => o.guard.isNone && tmpAll o (fun t => R.all fun j => !(dstOf all j == some t) || onB o j) && o.after.all (fun e => !(Region.binds .any e) || (R.contains e.on && Nat.blt e.on i))
 | none => false
def rdOk (all : Array Oper) (R : List Nat) (m i : Nat) : Bool := lookOk all R i && match all[i]? with
 | some o => tmpAll o (fun t => !(dstOf all m == some t)) && o.dst.isSome && !(dstOf all i == dstOf all m) && !(i == m)
 | none => false
def restOk (all : Array Oper) (R : List Nat) (m j : Nat) : Bool := R.contains j || j == m || match all[j]? with
 | some o => o.after.any fun e => Region.binds .any e && !(R.contains e.on)
 | none => true
def mChk (all : Array Oper) (R : List Nat) (m : Nat) : Bool := lookOk all R m && (R.all fun i => rdOk all R m i) && (List.range all.size).all fun j => restOk all R m j
def rdAll (T : Tab) (K : Kn) (env : List (Nat × A)) (h : Heap) : List (Nat × Oper) → Prop
 | [] => True
 | p :: l => (match p.2.dst with
  | some d => eff T K env h p.2.op = some (look env d, h)
  | none => False) ∧ rdAll T K env h l
theorem rdAll_mem {T : Tab} {K : Kn} {env : List (Nat × A)} {h : Heap} {l : List (Nat × Oper)} (hl : rdAll T K env h l) {p : Nat × Oper} (hp : p ∈ l) : ∃ d, p.2.dst = some d ∧ eff T K env h p.2.op = some (look env d, h) := by
 induction l with
 | nil => cases hp
 | cons q l ih =>
  rcases List.mem_cons.1 hp with rfl | hp
  ·have := hl.1
   split at this
   ·rename_i d hd; exact ⟨d, hd, this⟩
   ·exact this.elim
  ·exact ih hl.2 hp
section
variable {c : Cx} {k : List It} {st sF : St} {all : Array Oper} {om : Oper} {K : Kn} {R : List Nat} {m : Nat}
theorem mem_takePk {i : Nat} {o : Oper} (hi : i ∈ R) (ho : all[i]? = some o) : (i, o) ∈ takePk all R := List.mem_filterMap.2 ⟨i, hi, by rw [ho]; rfl⟩
def InvM' (all : Array Oper) (R : List Nat) (env0 envF : List (Nat × A)) (listed : Array Bool) (env : List (Nat × A)) : Prop :=
 ∀ t, look env t = look envF t ∨ (look env t = look env0 t ∧ ∃ j ∈ R, dstOf all j = some t ∧ listed.getD j false = false)
theorem chk_m (h : mChk all R m = true) : lookOk all R m = true := by simp only [mChk, Bool.and_eq_true] at h; exact h.1.1
theorem chk_r (h : mChk all R m = true) {i : Nat} (hi : i ∈ R) : rdOk all R m i = true := by
 simp only [mChk, Bool.and_eq_true, List.all_eq_true] at h
 exact h.1.2 i hi
theorem chk_look (h : mChk all R m = true) {i : Nat} (hi : i ∈ R ∨ i = m) : lookOk all R i = true := by
 rcases hi with hi | rfl
 ·have := chk_r h hi
  simp only [rdOk, Bool.and_eq_true] at this
  exact this.1
 ·exact chk_m h
theorem chk_rest (h : mChk all R m = true) {j : Nat} {o : Oper} (ho : all[j]? = some o) (hj : j ∉ R) (hm : j ≠ m) : ∃ e ∈ o.after, Region.binds .any e = true ∧ e.on ∉ R := by
 simp only [mChk, Bool.and_eq_true, List.all_eq_true] at h
 have := h.2 j (by simpa using (Array.getElem?_eq_some_iff.1 ho).1)
 simp only [restOk, ho, Bool.or_eq_true, List.contains_iff_mem, beq_iff_eq, hj, hm, false_or] at this
 obtain ⟨e, he, hb⟩ := Array.any_eq_true'.1 this
 simp only [Bool.and_eq_true, Bool.not_eq_true'] at hb
 exact ⟨e, he, hb.1, fun hh => by rw [List.contains_iff_mem.2 hh] at hb; simp at hb⟩
theorem look_spec {i : Nat} {o : Oper} (h : lookOk all R i = true) (ho : all[i]? = some o) : o.guard = none ∧ (∀ t, Operand.tmp t ∈ o.op.operands → ∀ j ∈ R, dstOf all j = some t → onB o j = true) ∧ ∀ e ∈ o.after, Region.binds .any e = true → e.on ∈ R ∧ e.on < i := by
 simp only [lookOk, ho, Bool.and_eq_true, Option.isNone_iff_eq_none] at h
 refine ⟨h.1.1, fun t ht j hj hd => ?_, fun e he hb => ?_⟩
 ·have := tmpAll_spec h.1.2 ht
  simp only [List.all_eq_true, Bool.or_eq_true, Bool.not_eq_true', beq_eq_false_iff_ne] at this
  exact (this j hj).resolve_left (fun hne => hne hd)
 ·have := h.2
  rw [Array.all_eq_true'] at this
  have := this e he
  simp only [Bool.or_eq_true, Bool.not_eq_true', Bool.and_eq_true, List.contains_iff_mem, Nat.blt_eq] at this
  exact this.resolve_left (by rw [hb]; simp)
theorem chk_progress (h : mChk all R m = true) {listed : Array Bool} (hsz : listed.size = all.size) : ∀ N i, i < N → (i ∈ R ∨ i = m) → listed.getD i false = false → ∃ j, j ∈ Region.ready .any all listed := by
 intro N
 induction N with
 | zero => intro i hi; omega
 | succ N ih =>
  intro i hi hR hun
  have hl := chk_look h hR
  cases ho : all[i]? with
  | none => simp [lookOk, ho] at hl
  | some o =>
   obtain ⟨g1, g2, g3⟩ := look_spec hl ho
   have hlt := (Array.getElem?_eq_some_iff.1 ho).1
   have hun2 : listed.getD i true = false := by
    simp only [Array.getD_eq_getD_getElem?] at hun ⊢
    rw [Array.getElem?_eq_getElem (by omega)] at hun ⊢
    exact hun
   by_cases hd : ∀ e ∈ o.after, Region.binds .any e = true → listed.getD e.on false = true
   ·exact ⟨i, mem_ready.2 ⟨hun2, o, ho, hd⟩⟩
   ·have : ∃ e ∈ o.after, Region.binds .any e = true ∧ listed.getD e.on false = false := by
     refine Classical.byContradiction fun hn => hd fun e he hb => ?_
     cases hx : listed.getD e.on false with
     | true => rfl
     | false => exact absurd ⟨e, he, hb, hx⟩ hn
    obtain ⟨e, he, hb, hx⟩ := this
    obtain ⟨q1, q2⟩ := g3 e he hb
    exact ih e.on (by omega) (.inl q1) hx
theorem inv_ops (h : mChk all R m = true) {env0 envF env : List (Nat × A)} {listed : Array Bool} (hi : InvM' all R env0 envF listed env) {i : Nat} {o : Oper} (hR : i ∈ R ∨ i = m) (ho : all[i]? = some o)
  (hall : ∀ e ∈ o.after, Region.binds .any e = true → listed.getD e.on false = true) : ∀ y ∈ o.op.operands, ev env y = ev envF y := by
 intro y hy
 cases y with
 | tmp t =>
  rcases hi t with h1 | ⟨h1, j, hj, hd, hu⟩
  ·exact h1
  ·obtain ⟨g1, g2, g3⟩ := look_spec (chk_look h hR) ho
   obtain ⟨e, he, hb, hon⟩ := onB_spec (g2 t hy j hj hd)
   have := hall e he hb
   rw [hon, hu] at this
   cases this
 | _ => rfl
theorem dst_eq {i : Nat} {o : Oper} (ho : all[i]? = some o) : dstOf all i = o.dst := by unfold dstOf; rw [ho]; rfl
theorem run_out (l : List (Nat × Oper)) : ∀ {st sF : St}, Ab.runP c.T K all l.length st l = (sF, []) → ∀ t, (∀ p ∈ l, p.2.dst ≠ some t) → look sF.env t = look st.env t := by
 induction l with
 | nil => intro st sF hr t _; simp only [List.length_nil, Ab.runP, Prod.mk.injEq, and_true] at hr; rw [hr]
 | cons p l ih =>
  intro st sF hr t ht
  simp only [List.length_cons, Ab.runP] at hr
  split at hr
  ·rename_i s hs
   rw [ih hr t (fun q hq => ht q (by simp [hq]))]
   have hp := ht p (by simp)
   unfold dstep at hs
   split at hs
   ·split at hs
    ·obtain ⟨_, rfl⟩ := putO_iff.1 hs
     show look (putE _ _ _) t = _
     rw [look_putE, if_neg hp]; rfl
    ·cases hs
   ·obtain ⟨_, rfl⟩ := putO_iff.1 hs
    show look (putE _ _ _) t = _
    rw [look_putE, if_neg hp]
   ·cases hs
  ·simp only [Prod.mk.injEq] at hr; exact absurd hr.2 (by simp)
theorem upto_wp {P : Program} {o : Oper} {a : Act} {w : World} {J : Act → World → Prop} {Q : Exit → Act → World → Prop} (h : o.wp P a w J (Exit.then J Q)) : o.wp P a w J Q := by
 unfold Oper.wp at *
 generalize (execOp a.eval o).run P w = r at *
 cases r with
 | ok n w' =>
  cases n <;> simp only [Oper.upon] at h ⊢ <;>
   first
    | exact h
    | exact Calls.mono h (fun e w'' he => by cases e <;> exact he)
 | halt x w' => cases x <;> simp only [Oper.upon] at h ⊢ <;> exact h
theorem drawM_core (hT : c.T.ok c.P) (hK : K.ok c.P) (hom : all[m]? = some om) (hchk : mChk all R m = true) {env0 envF : List (Nat × A)} {h0 hh : Heap} {n : Nat} {res : A}
  (hr0 : rdAll c.T K envF h0 (takePk all R)) (hr1 : rdAll c.T K envF hh (takePk all R))
  (hcall : ∀ env, (∀ y ∈ om.op.operands, ev env y = ev envF y) → ∀ k', G c (.ops all [] :: k') ⟨putE env om.dst res, hh, n⟩ → G c (.ops all [om] :: k') ⟨env, h0, n⟩) :
  ∀ fuel listed env, listed.size = all.size → InvM' all R env0 envF listed env → listed.getD m false = false → (∀ j, j ∉ R → listed.getD j false = false) →
   AnyA c.T K all (G c k) fuel (listed.setIfInBounds m true) ⟨putE env om.dst res, hh, n⟩ →
   ∀ a w φ fs, SRel c.S0 ⟨env, h0, n⟩ a w φ fs → Bnd c w φ fs → wpAny c.P .any all (cont c.P k c.Q) (fuel + 1) listed a w := by
 intro fuel
 induction fuel with
 | zero =>
  intro listed env hsz hinv hmu hoff H a w φ fs hr hb
  refine ⟨fun h => ?_, fun i hi => ?_⟩
  ·obtain ⟨j, hj⟩ := chk_progress hchk hsz (m + 1) m (by omega) (.inr rfl) hmu
   rw [h] at hj; cases hj
  ·obtain ⟨hun, o, ho, hall⟩ := mem_ready.1 hi
   by_cases him : i = m
   ·subst him
    have hops := inv_ops hchk hinv (.inr rfl) ho hall
    rw [ho] at hom
    injection hom with hom
    subst hom
    obtain ⟨g1, _, _⟩ := look_spec (chk_m hchk) ho
    have hw := hcall env hops (.upto (fun a w => ∃ φ fs, SRel c.S0 ⟨putE env o.dst res, hh, n⟩ a w φ fs ∧ Bnd c w φ fs) :: k) (fun a w φ fs h1 h2 => ⟨φ, fs, h1, h2⟩) a w φ fs hr hb
    unfold wpOp
    simp only [ho]
    change wpList c.P all _ [o] a w at hw
    simp only [wpList] at hw
    rw [if_pos (by simp [Region.wanted, g1])] at hw ⊢
    refine hw.imp (fun hw => ?_) id
    exact Oper.wp_mono (fun a w ⟨φ, fs, h1, h2⟩ => AnyA.run hT hK 0 H a w φ fs h1 h2) (upto_wp hw)
   ·have := ready_mono hi him
    rw [H.1] at this
    cases this
 | succ fuel ih =>
  intro listed env hsz hinv hmu hoff H a w φ fs hr hb
  refine ⟨fun h => ?_, fun i hi => ?_⟩
  ·obtain ⟨j, hj⟩ := chk_progress hchk hsz (m + 1) m (by omega) (.inr rfl) hmu
   rw [h] at hj; cases hj
  ·obtain ⟨hun, o, ho, hall⟩ := mem_ready.1 hi
   by_cases him : i = m
   ·subst him
    have hops := inv_ops hchk hinv (.inr rfl) ho hall
    rw [ho] at hom
    injection hom with hom
    subst hom
    obtain ⟨g1, _, _⟩ := look_spec (chk_m hchk) ho
    have hw := hcall env hops (.upto (fun a w => ∃ φ fs, SRel c.S0 ⟨putE env o.dst res, hh, n⟩ a w φ fs ∧ Bnd c w φ fs) :: k) (fun a w φ fs h1 h2 => ⟨φ, fs, h1, h2⟩) a w φ fs hr hb
    unfold wpOp
    simp only [ho]
    change wpList c.P all _ [o] a w at hw
    simp only [wpList] at hw
    rw [if_pos (by simp [Region.wanted, g1])] at hw ⊢
    refine hw.imp (fun hw => ?_) id
    exact Oper.wp_mono (fun a w ⟨φ, fs, h1, h2⟩ => AnyA.run hT hK _ H a w φ fs h1 h2) (upto_wp hw)
   ·by_cases hiR : i ∈ R
    ·have hops := inv_ops hchk hinv (.inl hiR) ho hall
     obtain ⟨g1, g2, g3⟩ := look_spec (chk_look hchk (.inl hiR)) ho
     have hrd := chk_r hchk hiR
     simp only [rdOk, ho, Bool.and_eq_true, Bool.not_eq_true', beq_eq_false_iff_ne] at hrd
     obtain ⟨_, ⟨⟨hnm, _⟩, hdd⟩, _⟩ := hrd
     rw [dst_eq ho, dst_eq hom] at hdd
     have hops2 : ∀ y ∈ o.op.operands, ev (putE env om.dst res) y = ev envF y := fun y hy => by
      rw [← hops y hy]
      refine ev_putE fun e he hye => ?_
      subst hye
      have := tmpAll_spec hnm hy
      simp only [Bool.not_eq_true', beq_eq_false_iff_ne] at this
      exact this (by rw [dst_eq hom]; exact he)
     obtain ⟨d, hd, e0⟩ := rdAll_mem hr0 (mem_takePk hiR ho)
     obtain ⟨d', hd', e1⟩ := rdAll_mem hr1 (mem_takePk hiR ho)
     simp only at hd hd' e0 e1
     rw [hd] at hd'
     injection hd' with hd'
     subst hd'
     obtain ⟨o', s2, q1, q2, q3⟩ := H.2 i (ready_mono hi him)
     rw [ho] at q1
     injection q1 with q1
     subst q1
     unfold dstep at q2
     simp only [wantedA, g1] at q2
     rw [eff_congr (env' := envF) hops2, e1] at q2
     simp only at q2
     obtain ⟨p1, rfl⟩ := putO_iff.1 q2
     have hs : dstep c.T K all ⟨env, h0, n⟩ o = some ⟨putE env (some d) (look envF d), h0, n⟩ := by
      unfold dstep
      simp only [wantedA, g1]
      rw [eff_congr (env' := envF) hops, e0]
      simp only
      rw [hd] at p1 ⊢
      exact putO_iff.2 ⟨p1, rfl⟩
     unfold wpOp
     simp only [ho]
     refine dstep_run hT hK hs hr hb (fun a' w' φ' fs' h4 h5 => ih (listed.setIfInBounds i true) (putE env (some d) (look envF d)) (by simpa using hsz) ?_ ?_ ?_ ?_ a' w' φ' fs' h4 h5)
     ·intro t
      rw [look_putE]
      by_cases ht : d = t
      ·subst ht; rw [if_pos rfl]; exact .inl rfl
      ·rw [if_neg (by simpa using ht)]
       rcases hinv t with h1 | ⟨h1, j, hj, hdj, hu⟩
       ·exact .inl h1
       ·refine .inr ⟨h1, j, hj, hdj, ?_⟩
        rw [getD_set_ne false (fun hij => ?_)]
        ·exact hu
        ·subst hij
         rw [dst_eq ho, hd] at hdj
         injection hdj with hdj
         exact ht hdj
     ·rw [getD_set_ne false him]; exact hmu
     ·intro j hj
      rw [getD_set_ne false (fun hij => hj (by rw [← hij]; exact hiR))]
      exact hoff j hj
     ·rw [Array.setIfInBounds_comm _ _ him]
      refine AnyA.same (E := G c k) (fun _ _ => G.same) ?_ q3
      refine ⟨rfl, rfl, fun t => ?_⟩
      simp only [withH, hd, look_putE]
      rw [hd] at hdd
      by_cases h1 : om.dst = some t
      ·by_cases h2 : (some d : Option Nat) = some t
       ·exact absurd (h2.trans h1.symm) hdd
       ·simp only [if_pos h1, if_neg h2]
      ·simp only [if_neg h1]
    ·obtain ⟨e, he, hb2, hon⟩ := chk_rest hchk ho hiR him
     have := hall e he hb2
     rw [hoff e.on hon] at this
     cases this
theorem G.drawM (hmx : c.P.follows .mixedOrders = true) (hT : c.T.ok c.P) (hK : K.ok c.P) {id : Nat} (m : Nat) (R : List Nat) (hom : all[m]? = some om) (hchk : mChk all R m = true) {nR : Nat} (hnR : (takePk all R).length = nR)
  {fid : FuncId} {caps : List A} {fo : Operand} {args : Array Operand} {at_ : Array TypeId} {res : A} {h' hsel hh : Heap} {vargs : List A} {x : A} (sel : List Nat) (he : Enters c.P fid) (hc : MC c.P fid hsel vargs res h')
  (hrun : Ab.runP c.T K all nR st (takePk all R) = (sF, []))
  (ho : om.op = .call { callee := .value fo, args := args, argTypes := at_ }) (hg : om.guard = none) (hf : ∀ env, ev env fo = .fn fid caps) (hsn : sel.Nodup) (hsl : ∀ m ∈ sel, m < st.heap.length)
  (h1 : rnH st.heap sel = hsel) (h2 : rnL sel (callArgs sF.env args caps) = vargs) (hlen : sel.length ≤ h'.length) (hmg : mergeH st.heap sel h' = hh) (hx : mpA (bkI sel st.heap.length) res = x) (hd : ∀ e, om.dst = some e → e < st.n)
  (hr0 : rdAll c.T K sF.env st.heap (takePk all R)) (hr1 : rdAll c.T K sF.env hh (takePk all R))
  {n : Nat} (hn : n + 1 = all.size) {st1 : St} (hst1 : (⟨putE st.env om.dst x, hh, st.n⟩ : St) = st1) (h : AnyL c K k all [m] n st1) : G c (.code (.region id all true) :: k) st := by
 subst hmg hx hst1 hnR
 intro a w φ fs hr hb
 refine wp_region_any hmx ?_
 suffices hsf : wpAny c.P .any all (cont c.P k c.Q) (n + 1) (Array.replicate all.size false) a { w with drawn := w.drawn + 1 } by
  rw [hn] at hsf
  exact hsf
 have hf0 : Fr (fun _ => False) w { w with drawn := w.drawn + 1 } := ⟨rfl, rfl, rfl, Nat.le_refl _, fun _ _ _ => rfl⟩
 refine drawM_core (env0 := st.env) (envF := sF.env) (h0 := st.heap) (n := st.n) (res := mpA (bkI sel st.heap.length) res) hT hK hom hchk hr0 hr1 ?_ n _ st.env (by simp) ?_ ?_ ?_ ?_ a { w with drawn := w.drawn + 1 } φ fs ?_ ?_
 ·intro env hops k' hk
  refine G.callF sel he ho hg (hf _) hsn hsl h1 ?_ hc hlen ?_ hk
  ·show rnL sel (callArgs env args caps) = vargs
   rw [← h2]
   have : args.toList.map (ev env) = args.toList.map (ev sF.env) := List.map_congr_left fun y hy => hops y (by rw [ho]; simp only [Op.operands, Call.operands]; simp; exact .inr (by simpa using hy))
   unfold callArgs
   rw [this]
  ·exact putO_iff.2 ⟨hd, rfl⟩
 ·intro t
  by_cases ht : ∃ p ∈ takePk all R, p.2.dst = some t
  ·obtain ⟨p, hp, hpd⟩ := ht
   obtain ⟨i, hi, ho2⟩ := List.mem_filterMap.1 hp
   obtain ⟨o, hoi, rfl⟩ := Option.map_eq_some_iff.1 ho2
   refine .inr ⟨rfl, i, hi, by rw [dst_eq hoi]; exact hpd, by simp [Array.getD_eq_getD_getElem?, Array.getElem?_replicate]; split <;> rfl⟩
  ·exact .inl (run_out _ hrun t (fun p hp hpd => ht ⟨p, hp, hpd⟩)).symm
 ·simp [Array.getD_eq_getD_getElem?, Array.getElem?_replicate]; split <;> rfl
 ·intro j _; simp [Array.getD_eq_getD_getElem?, Array.getElem?_replicate]; split <;> rfl
 ·exact h
 ·exact ⟨hr.defers, hr.size, fun i => (hr.env i).frame hf0 (fun b hb => .inl hb) (fun _ h => h.elim) (Ext.refl _) (by simp), hr.heap.frame hf0 (fun b hb => .inl hb) (fun _ h => h.elim) (Ext.refl _) (fun _ _ h => h), hr.nodup, hr.apart, hr.low⟩
 ·exact ⟨hb.1.trans (T' := fun _ => False) ⟨rfl, rfl, rfl, Nat.le_refl _, fun _ _ _ => rfl⟩ (fun _ h => h.elim), hb.2.1, hb.2.2⟩
def depsU (all : Array Oper) (listed : Array Bool) (i : Nat) : List Nat :=
 (List.range all.size).foldl (fun D j => match all[j]? with
  | some oj => if !listed.getD j false && oj.after.any (fun e => Region.binds .any e && (e.on == i || D.contains e.on)) then j :: D else D
  | none => D) []
def takeCU (all : Array Oper) (ts : List Nat) (i : Nat) : Bool := (Region.ready .any all (markOf all ts)).contains i && takeOk all (markOf all ts) i (depsU all (markOf all ts) i)
def takeLU (all : Array Oper) : List Nat → List Nat → Bool
 | _, [] => true
 | ts, i :: l => takeCU all ts i && takeLU all (i :: ts) l
section
variable {c : Cx} {k : List It} {st st' : St} {all : Array Oper} {K : Kn} {ts : List Nat} {n : Nat}
theorem AnyL.takeU {i : Nat} {o : Oper} (hi : all[i]? = some o) (ht : takeCU all ts i = true) (hs : dstep c.T K all st o = some st') (h : AnyL c K k all (i :: ts) n st') : AnyL c K k all ts (n + 1) st := by
 simp only [takeCU, Bool.and_eq_true] at ht
 obtain ⟨t1, t2, t3, t4⟩ := takeOk_spec ht.2 hi
 exact AnyA.take (fun _ _ => G.same) hi t1 _ _ _ _ t2 t3 t4 (by simpa using ht.1) hs h
theorem AnyL.runPU (l : List (Nat × Oper)) : ∀ {ts : List Nat} {st : St}, (∀ p ∈ l, all[p.1]? = some p.2) → takeLU all ts (l.map (·.1)) = true → Ab.runP c.T K all l.length st l = (st', []) → AnyL c K k all ((l.map (·.1)).reverse ++ ts) n st' → AnyL c K k all ts (l.length + n) st := by
 induction l with
 | nil => intro ts st _ _ hr h; simp only [List.length_nil, Ab.runP, Prod.mk.injEq, and_true] at hr; subst hr; simpa using h
 | cons p l ih =>
  intro ts st hm ht hr h
  simp only [List.map_cons, takeLU, Bool.and_eq_true] at ht
  simp only [List.length_cons, Ab.runP] at hr
  split at hr
  ·rename_i s hs
   have h2 := ih (ts := p.1 :: ts) (fun q hq => hm q (by simp [hq])) ht.2 hr (by simpa using h)
   have := AnyL.takeU (hm p (by simp)) ht.1 hs h2
   rw [show (p :: l).length + n = l.length + n + 1 by simp; omega]
   exact this
  ·simp only [Prod.mk.injEq] at hr; exact absurd hr.2 (by simp)
theorem AnyL.goU (m : Nat) (ord : List Nat) (hl : (takePk all ord).length = m) (ho : (takePk all ord).map (·.1) = ord) (ht : takeLU all ts ord = true) (hr : Ab.runP c.T K all m st (takePk all ord) = (st', [])) (h : AnyL c K k all (ord.reverse ++ ts) n st') : AnyL c K k all ts (m + n) st := by
 subst hl
 exact AnyL.runPU _ (takePk_ok all ord) (by rw [ho]; exact ht) hr (by rw [ho]; exact h)
end
end
end Go.Proofs.Ytimgfinlbhodhaa.Ab
