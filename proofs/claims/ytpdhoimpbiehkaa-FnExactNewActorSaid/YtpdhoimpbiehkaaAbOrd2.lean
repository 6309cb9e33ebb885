/- Regions whose order is drawn: one order for all. -/
import Derived.Test.YtpdhoimpbiehkaaAbOrd
namespace Go.Proofs.Ytpdhoimpbiehkaa.Ab
open Go
set_option linter.unusedVariables false
set_option linter.unusedSimpArgs false

section
variable {T : Tab} {K : Kn} {all : Array Oper} {o oi oj : Oper} {st st' s1 s2 : St}
/-- Every order comes to what is asked for. -/
def AnyA (T : Tab) (K : Kn) (all : Array Oper) (E : St → Prop) : Nat → Array Bool → St → Prop
  | 0, listed, st => Region.ready .any all listed = [] ∧ E st
  | fuel + 1, listed, st => (Region.ready .any all listed = [] → E st) ∧
      ∀ i ∈ Region.ready .any all listed, ∃ o st', all[i]? = some o ∧ dstep T K all st o = some st' ∧ AnyA T K all E fuel (listed.setIfInBounds i true) st'
theorem AnyA.same {E : St → Prop} (hE : ∀ st st', Same st st' → E st → E st') : ∀ {fuel : Nat} {listed : Array Bool} {st st' : St}, Same st st' → AnyA T K all E fuel listed st → AnyA T K all E fuel listed st'
  | 0, _, _, _, h, H => ⟨H.1, hE _ _ h H.2⟩
  | fuel + 1, listed, st, st', h, H => ⟨fun h0 => hE _ _ h (H.1 h0), fun i hi => by
      obtain ⟨o, s1, h1, h2, h3⟩ := H.2 i hi
      obtain ⟨s2, h4, h5⟩ := dstep_same h h2
      exact ⟨o, s2, h1, h4, AnyA.same hE h5 h3⟩⟩
/-- One operation ahead of all others. -/
theorem AnyA.take {E : St → Prop} (hE : ∀ st st', Same st st' → E st → E st') {i : Nat} (hi : all[i]? = some oi) {D : List Nat}
    (hD : ∀ j oj, all[j]? = some oj → j ∈ D → ∃ e ∈ oj.after, Region.binds .any e = true ∧ (e.on = i ∨ e.on ∈ D)) :
    ∀ (fuel : Nat) (listed : Array Bool) (st s1 : St), (∀ j ∈ D, listed.getD j false = false) → listed.getD i false = false →
      (∀ j oj, all[j]? = some oj → j ≠ i → j ∉ D → listed.getD j true = false → rdr oi.op = true ∧ mutOp oj.op = false ∧ oi.apart all oj = true) →
      i ∈ Region.ready .any all listed → dstep T K all st oi = some s1 → AnyA T K all E fuel (listed.setIfInBounds i true) s1 → AnyA T K all E (fuel + 1) listed st := by
  intro fuel
  induction fuel with
  | zero =>
    intro listed st s1 _ _ _ hr hs H
    refine ⟨fun h => (by rw [h] at hr; cases hr), fun j hj => ?_⟩
    by_cases hji : j = i
    · subst hji; exact ⟨oi, s1, hi, hs, H⟩
    · have := ready_mono hj hji
      rw [H.1] at this
      cases this
  | succ fuel ih =>
    intro listed st s1 hun hni hfree hr hs H
    refine ⟨fun h => (by rw [h] at hr; cases hr), fun j hj => ?_⟩
    by_cases hji : j = i
    · subst hji; exact ⟨oi, s1, hi, hs, H⟩
    · obtain ⟨hjun, oj', hoj', hall⟩ := mem_ready.1 hj
      have hjD : j ∉ D := fun hjD => by
        obtain ⟨e, he, hb, hor⟩ := hD j oj' hoj' hjD
        have := hall e he hb
        rcases hor with h | h
        · rw [h, hni] at this; cases this
        · rw [hun _ h] at this; cases this
      obtain ⟨oj, s2, hoj, h2, h3⟩ := H.2 j (ready_mono hj hji)
      obtain ⟨c1, c2, c3⟩ := hfree j oj hoj hji hjD hjun
      obtain ⟨s', s2', d1, d2, d3⟩ := dstep_comm c1 c2 c3 hs h2
      refine ⟨oj, s', hoj, d1, ih (listed.setIfInBounds j true) s' s2' ?_ ?_ ?_ (ready_mono hr (Ne.symm hji)) d2 ?_⟩
      · intro k hk
        rw [getD_set_ne false (fun h => hjD (by rw [h]; exact hk))]
        exact hun k hk
      · rw [getD_set_ne false hji]; exact hni
      · intro k ok hk hki hkD hkun
        refine hfree k ok hk hki hkD ?_
        by_cases hjk : j = k
        · subst hjk; exact hjun
        · rw [getD_set_ne true hjk] at hkun; exact hkun
      · rw [Array.setIfInBounds_comm _ _ hji]
        exact AnyA.same hE d3 h3

/-! ### What can be seen from the text -/
def depsOf (all : Array Oper) (i : Nat) : List Nat :=
  (List.range all.size).foldl (fun D j => match all[j]? with
    | some oj => if oj.after.any (fun e => Region.binds .any e && (e.on == i || D.contains e.on)) then j :: D else D
    | none => D) []
def takeOk (all : Array Oper) (listed : Array Bool) (i : Nat) (D : List Nat) : Bool :=
  (D.all fun j => !listed.getD j false && (match all[j]? with
    | some oj => oj.after.any fun e => Region.binds .any e && (e.on == i || D.contains e.on)
    | none => true)) && !listed.getD i false && (List.range all.size).all fun j => j == i || D.contains j || listed.getD j true || (match all[j]?, all[i]? with
      | some oj, some oi => rdr oi.op && !mutOp oj.op && oi.apart all oj
      | _, _ => true)
def drawOk (all : Array Oper) : List Nat → Array Bool → Bool
  | [], listed => (Region.ready .any all listed).isEmpty
  | i :: l, listed => (Region.ready .any all listed).contains i && takeOk all listed i (depsOf all i) && drawOk all l (listed.setIfInBounds i true)
theorem takeOk_spec {listed : Array Bool} {i : Nat} {D : List Nat} (h : takeOk all listed i D = true) (hi : all[i]? = some oi) :
    (∀ j oj, all[j]? = some oj → j ∈ D → ∃ e ∈ oj.after, Region.binds .any e = true ∧ (e.on = i ∨ e.on ∈ D)) ∧ (∀ j ∈ D, listed.getD j false = false) ∧ listed.getD i false = false ∧
      (∀ j oj, all[j]? = some oj → j ≠ i → j ∉ D → listed.getD j true = false → rdr oi.op = true ∧ mutOp oj.op = false ∧ oi.apart all oj = true) := by
  simp only [takeOk, Bool.and_eq_true, List.all_eq_true] at h
  obtain ⟨⟨h1, h2⟩, h3⟩ := h
  refine ⟨fun j oj hj hjD => ?_, fun j hj => ?_, ?_, fun j oj hj hji hjD hun => ?_⟩
  · have := (h1 j hjD).2
    rw [hj] at this
    simp only at this
    obtain ⟨e, he, hb⟩ := Array.any_eq_true'.1 this
    simp only [Bool.and_eq_true, Bool.or_eq_true, beq_iff_eq, List.contains_iff_mem] at hb
    exact ⟨e, he, hb.1, hb.2⟩
  · simpa using (h1 j hj).1
  · simpa using h2
  · have hlt := (Array.getElem?_eq_some_iff.1 hj).1
    have := h3 j (by simpa using hlt)
    rw [hj, hi] at this
    simp only [Bool.or_eq_true, Bool.and_eq_true, beq_iff_eq, List.contains_iff_mem, hji, hjD, hun, false_or, Bool.false_eq_true, Bool.not_eq_true'] at this
    exact ⟨this.1.1, this.1.2, this.2⟩
end

section
variable {c : Cx} {k : List It} {st st' : St} {all : Array Oper} {o : Oper} {K : Kn}
theorem G.same (h : Same st st') (hk : G c k st) : G c k st' := by
  intro a w φ fs hs hb
  refine hk a w φ fs ⟨hs.defers, by rw [h.2.1]; exact hs.size, fun i => by rw [h.2.2 i]; exact hs.env i, by rw [h.1]; exact hs.heap, hs.nodup, hs.apart, hs.low⟩ hb
theorem tup_nil {w : World} {S : Nat → Prop} {φ : List (Option Loc)} {v : Value} (h : Rel w S φ (.tup []) v []) : v = undef := by
  generalize hf : ([] : List Nat) = f at h
  cases h with
  | tup hr => cases hr; rfl
theorem wantedA_run {S0 : Nat → Prop} {a : Act} {w : World} {φ : List (Option Loc)} {fs : List Nat} (h : SRel S0 st a w φ fs) {b : Bool} (hw : wantedA all st.env o = some b) : Region.wanted o (yielded all a.tmps) = b := by
  unfold wantedA at hw
  unfold Region.wanted
  split at hw
  · rename_i hg; injection hw with hw; subst hw; rw [hg]
  · rename_i j v hg
    rw [hg]
    simp only
    split at hw
    · rename_i d hd
      have hr := h.env d
      have hs := h.size
      split at hw
      · rename_i g hl
        injection hw with hw
        subst hw
        rw [hl] at hr
        have hlt : d < st.n := by
          rcases Nat.lt_or_ge d st.n with h | h
          · exact h
          · have : a.tmps.getD d undef = undef := by simp [Array.getD, hs, Nat.not_lt.2 h]
            rw [this] at hr
            cases hr
        rw [yielded_bool h hd hl hlt]
        cases g <;> cases v <;> rfl
      · rename_i hl
        injection hw with hw
        subst hw
        rw [hl] at hr
        have := tup_nil hr
        have hy : yielded all a.tmps j = none := by
          unfold yielded
          unfold dstOf at hd
          rw [hd]
          simp only [Option.bind_some]
          cases ht : a.tmps[d]? with
          | none => rfl
          | some x =>
            have : x = undef := by
              have e := this
              simp only [Array.getD_eq_getD_getElem?, ht, Option.getD_some] at e
              exact e
            rw [this]
            rfl
        rw [hy]
        rfl
      · cases hw
    · cases hw
theorem dstep_run (hT : c.T.ok c.P) (hK : K.ok c.P) (hs : dstep c.T K all st o = some st') {a : Act} {w : World} {φ : List (Option Loc)} {fs : List Nat} (hr : SRel c.S0 st a w φ fs) (hb : Bnd c w φ fs)
    {Kc : Act → World → Prop} {Q : Exit → Act → World → Prop} (hk : ∀ a' w' φ' fs', SRel c.S0 st' a' w' φ' fs' → Bnd c w' φ' fs' → Kc a' w') :
    if Region.wanted o (yielded all a.tmps) then o.wp c.P a w Kc Q ∨ (o.asks c.P a w ∧ LetsOut Q) else Kc (a.put o.dst undef) w := by
  unfold dstep at hs
  split at hs
  · rename_i hw
    rw [wantedA_run hr hw]
    simp only [if_true]
    split at hs
    · rename_i x h he
      exact .inl (step2_does (all := all) hT hK (eff_step2 he hs) Kc Q a w φ fs hr hb (fun v w' φ' fs' h1 h2 => hk _ w' φ' fs' h1 h2))
    · cases hs
  · rename_i hw
    rw [wantedA_run hr hw]
    simp only [Bool.false_eq_true, if_false]
    exact hk _ w φ fs (hr.putO (v := undef) (.tup .nil) hs) hb
  · cases hs
theorem AnyA.run (hT : c.T.ok c.P) (hK : K.ok c.P) : ∀ (fuel : Nat) {listed : Array Bool} {st : St}, AnyA c.T K all (G c k) fuel listed st →
    ∀ a w φ fs, SRel c.S0 st a w φ fs → Bnd c w φ fs → wpAny c.P .any all (cont c.P k c.Q) fuel listed a w
  | 0, _, _, H, a, w, φ, fs, hr, hb => ⟨H.1, H.2 a w φ fs hr hb⟩
  | fuel + 1, listed, st, H, a, w, φ, fs, hr, hb => ⟨fun h0 => H.1 h0 a w φ fs hr hb, fun i hi => by
      obtain ⟨o, s1, h1, h2, h3⟩ := H.2 i hi
      unfold wpOp
      simp only [h1]
      exact dstep_run hT hK h2 hr hb (fun a' w' φ' fs' h4 h5 => AnyA.run hT hK fuel h3 a' w' φ' fs' h4 h5)⟩

/-- What is left of a region whose order is drawn, in the order that stands for all. -/
def Left (c : Cx) (K : Kn) (k : List It) (all : Array Oper) (l : List (Nat × Oper)) (st : St) : Prop :=
  ∀ listed, (∀ p ∈ l, all[p.1]? = some p.2) → drawOk all (l.map (·.1)) listed = true → AnyA c.T K all (G c k) l.length listed st
theorem Left.nil (h : G c k st) : Left c K k all [] st := fun listed _ hd => ⟨by simpa [drawOk] using hd, h⟩
theorem Left.step {i : Nat} {l : List (Nat × Oper)} (hs : dstep c.T K all st o = some st') (h : Left c K k all l st') : Left c K k all ((i, o) :: l) st := by
  intro listed hm hd
  simp only [List.map_cons, drawOk, Bool.and_eq_true] at hd
  have hi := hm (i, o) (by simp)
  obtain ⟨t1, t2, t3, t4⟩ := takeOk_spec hd.1.2 hi
  exact AnyA.take (fun _ _ => G.same) hi t1 _ _ _ _ t2 t3 t4 (by simpa using hd.1.1) hs (h _ (fun p hp => hm p (by simp [hp])) hd.2)
def runP (T : Tab) (K : Kn) (all : Array Oper) : Nat → St → List (Nat × Oper) → St × List (Nat × Oper)
  | 0, st, l => (st, l)
  | _ + 1, st, [] => (st, [])
  | n + 1, st, p :: l => match dstep T K all st p.2 with
    | some st' => runP T K all n st' l
    | none => (st, p :: l)
theorem Left.run (n : Nat) : ∀ {st st' : St} {l l' : List (Nat × Oper)}, runP c.T K all n st l = (st', l') → Left c K k all l' st' → Left c K k all l st := by
  induction n with
  | zero => intro st st' l l' h hk; simp only [runP, Prod.mk.injEq] at h; obtain ⟨rfl, rfl⟩ := h; exact hk
  | succ n ih =>
    intro st st' l l' h hk
    cases l with
    | nil => simp only [runP, Prod.mk.injEq] at h; obtain ⟨rfl, rfl⟩ := h; exact hk
    | cons p l =>
      simp only [runP] at h
      split at h
      · rename_i s hs
        exact Left.step (i := p.1) hs (ih h hk)
      · simp only [Prod.mk.injEq] at h; obtain ⟨rfl, rfl⟩ := h; exact hk
/-- A region whose order is drawn. -/
theorem G.draw (hm : c.P.follows .mixedOrders = true) (hT : c.T.ok c.P) (hK : K.ok c.P) {id : Nat} (l : List (Nat × Oper)) (hl : l.map (fun p => all[p.1]?) = l.map (fun p => some p.2)) (hn : l.length = all.size)
    (hd : drawOk all (l.map (·.1)) (Array.replicate all.size false) = true) (h : Left c K k all l st) : G c (.code (.region id all true) :: k) st := by
  intro a w φ fs hr hb
  refine wp_region_any hm ?_
  have hmem : ∀ p ∈ l, all[p.1]? = some p.2 := by
    intro p hp
    obtain ⟨n, hn, rfl⟩ := List.getElem_of_mem hp
    have := congrArg (·[n]?) hl
    simpa [hn] using this
  have := h _ hmem hd
  rw [hn] at this
  refine AnyA.run hT hK _ this a { w with drawn := w.drawn + 1 } φ fs ?_ ?_
  · have hf : Fr (fun _ => False) w { w with drawn := w.drawn + 1 } := ⟨rfl, rfl, rfl, Nat.le_refl _, fun _ _ _ => rfl⟩
    exact ⟨hr.defers, hr.size, fun i => (hr.env i).frame hf (fun b hb => .inl hb) (fun _ h => h.elim) (Ext.refl _) (by simp), hr.heap.frame hf (fun b hb => .inl hb) (fun _ h => h.elim) (Ext.refl _) (fun _ _ h => h), hr.nodup, hr.apart, hr.low⟩
  · exact ⟨hb.1.trans (T' := fun _ => False) ⟨rfl, rfl, rfl, Nat.le_refl _, fun _ _ _ => rfl⟩ (fun _ h => h.elim), hb.2.1, hb.2.2⟩
/-- Operations in a row, each guard's answer known. -/
def runD (T : Tab) (K : Kn) (all : Array Oper) : Nat → St → List Oper → St × List Oper
  | 0, st, l => (st, l)
  | _ + 1, st, [] => (st, [])
  | n + 1, st, o :: l => match dstep T K all st o with
    | some st' => runD T K all n st' l
    | none => (st, o :: l)
theorem G.runD (hT : c.T.ok c.P) (hK : K.ok c.P) (n : Nat) : ∀ {st st' : St} {l l' : List Oper}, Ab.runD c.T K all n st l = (st', l') → G c (.ops all l' :: k) st' → G c (.ops all l :: k) st := by
  induction n with
  | zero => intro st st' l l' h hk; simp only [Ab.runD, Prod.mk.injEq] at h; obtain ⟨rfl, rfl⟩ := h; exact hk
  | succ n ih =>
    intro st st' l l' h hk
    cases l with
    | nil => simp only [Ab.runD, Prod.mk.injEq] at h; obtain ⟨rfl, rfl⟩ := h; exact hk
    | cons o l =>
      simp only [Ab.runD] at h
      split at h
      · rename_i s hs
        intro a w φ fs hr hb
        show wpList c.P all (cont c.P k c.Q) (o :: l) a w
        simp only [wpList]
        exact dstep_run hT hK hs hr hb (fun a' w' φ' fs' h1 h2 => ih h hk a' w' φ' fs' h1 h2)
      · simp only [Prod.mk.injEq] at h; obtain ⟨rfl, rfl⟩ := h; exact hk
end
end Go.Proofs.Ytpdhoimpbiehkaa.Ab
namespace Go.Proofs.Ytpdhoimpbiehkaa.Ab
open Go
/-- An operation of which its own lemma tells. -/
theorem G.opV {c : Cx} {k : List It} {st st' : St} {all : Array Oper} {o : Oper} {l : List Oper} {x : A} (hg : o.guard = none) (hx : ∀ a w φ fs, SRel c.S0 st a w φ fs → ∃ v, (execOp a.eval o).run c.P w = .ok (.value v) w ∧ Rel w (Sof c.S0 fs) φ x v [])
    (hp : st.putO o.dst x = some st') (h : G c (.ops all l :: k) st') : G c (.ops all (o :: l) :: k) st := by
  intro a w φ fs hr hb
  obtain ⟨v, h1, h2⟩ := hx a w φ fs hr
  show wpList c.P all (cont c.P k c.Q) (o :: l) a w
  simp only [wpList]
  rw [if_pos (by simp [Region.wanted, hg])]
  refine .inl ?_
  unfold Oper.wp
  rw [h1]
  exact h (a.put o.dst v) w φ fs (hr.putO h2 hp) hb
end Go.Proofs.Ytpdhoimpbiehkaa.Ab
