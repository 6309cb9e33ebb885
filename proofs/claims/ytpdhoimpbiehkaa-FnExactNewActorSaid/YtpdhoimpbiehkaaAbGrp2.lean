/- Regions: the machine does what runC says. -/
import Derived.Test.YtpdhoimpbiehkaaAbGrp
namespace Go.Proofs.Ytpdhoimpbiehkaa.Ab
open Go
set_option linter.unusedVariables false
set_option linter.unusedSimpArgs false

theorem joinA_eq {g : Bool} {x y v : A} (h : joinA g x y = some v) : v = if g then x else y := by
  unfold joinA at h
  split at h
  · injection h with h; subst h; cases g <;> rfl
  · split at h
    · rename_i e; injection h with h; subst h e; cases g <;> rfl
    · cases h
  · cases h
theorem putO_n {st st' : St} {d : Option Nat} {x : A} (h : st.putO d x = some st') : st'.heap = st.heap ∧ st'.n = st.n ∧ (∀ e, d = some e → e < st.n) ∧ ∀ i, d ≠ some i → look st'.env i = look st.env i := by
  cases d with
  | none => simp [St.putO] at h; subst h; exact ⟨rfl, rfl, by simp, fun _ _ => rfl⟩
  | some d =>
    simp only [St.putO] at h
    split at h
    · rename_i hd
      injection h with h
      subst h
      refine ⟨rfl, rfl, fun e he => by injection he with he; subst he; exact hd, fun i hi => ?_⟩
      have : Nat.beq i d = false := by
        cases hb : Nat.beq i d
        · rfl
        · exact absurd (by rw [Nat.eq_of_beq_eq_true hb]) hi
      simp [St.put, look, this]
    · cases h
theorem look_forget (l : List Oper) (env : List (Nat × A)) (i : Nat) : (look (forget env l) i = .any ∧ ∃ o ∈ l, o.dst = some i) ∨ (look (forget env l) i = look env i ∧ ∀ o ∈ l, o.dst ≠ some i) := by
  induction l with
  | nil => exact .inr ⟨rfl, by simp⟩
  | cons o l ih =>
    cases hd : o.dst with
    | none =>
      simp only [forget, hd]
      rcases ih with ⟨h1, p, h2, h3⟩ | ⟨h1, h2⟩
      · exact .inl ⟨h1, p, by simp [h2], h3⟩
      · refine .inr ⟨h1, fun p hp => ?_⟩
        rcases List.mem_cons.1 hp with rfl | hp
        · rw [hd]; simp
        · exact h2 p hp
    | some d =>
      simp only [forget, hd, look]
      cases hb : Nat.beq i d with
      | true =>
        have := Nat.eq_of_beq_eq_true hb
        subst this
        exact .inl ⟨rfl, o, by simp, hd⟩
      | false =>
        have hne : d ≠ i := fun e => by subst e; simp at hb
        rcases ih with ⟨h1, p, h2, h3⟩ | ⟨h1, h2⟩
        · exact .inl ⟨by simpa using h1, p, by simp [h2], h3⟩
        · refine .inr ⟨by simpa using h1, fun p hp => ?_⟩
          rcases List.mem_cons.1 hp with rfl | hp
          · rw [hd]; simpa using hne
          · exact h2 p hp
theorem safe_tail {all : Array Oper} {g : Nat × Bool} {s : List (Nat × Bool)} {d : Option Nat} (h : safe all (g :: s) d = true) : safe all s d = true := by
  simp only [safe, List.all_cons, Bool.and_eq_true] at h ⊢
  exact h.2
theorem skips_dst {all : Array Oper} {j : Nat} {w : Bool} {l : List Oper} : ∀ {D : List Nat}, skips all j w D l = true → ∀ o ∈ l, ∀ d, o.dst = some d → dstOf all j ≠ some d := by
  induction l with
  | nil => intro D _ o ho; simp at ho
  | cons p l ih =>
    intro D h o ho d hd
    simp only [skips, Bool.and_eq_true] at h
    obtain ⟨_, h⟩ := h
    rcases List.mem_cons.1 ho with rfl | ho
    · rw [hd] at h
      simp only [Bool.and_eq_true, bne_iff_ne, ne_eq] at h
      exact h.1
    · cases hp : p.dst with
      | none => rw [hp] at h; exact ih h o ho d hd
      | some e =>
        rw [hp] at h
        simp only [Bool.and_eq_true] at h
        exact ih h.2 o ho d hd

/-- What a run under a guard leaves as it was. -/
def Kept (all : Array Oper) (stack : List (Nat × Bool)) (st st1 : St) (l : List Oper) : Prop :=
  st1.heap = st.heap ∧ st1.n = st.n ∧ (∀ o ∈ l, safe all stack o.dst = true ∧ ∀ d, o.dst = some d → d < st.n) ∧ ∀ i, (∀ o ∈ l, o.dst ≠ some i) → look st1.env i = look st.env i
/-- A group of guarded operations, and the choice behind it. -/
structure Grp (T : Tab) (K : Kn) (all : Array Oper) (n : Nat) (stack : List (Nat × Bool)) (st : St) (o : Oper) (l : List Oper) (st' : St) (rest B : List Oper) (p : Oper) (st1 : St) (j d : Nat) (w g : Bool) (a b : Operand) (v : A) : Prop where
  list : o :: l = B ++ p :: rest
  guard : p.guard = stack.head?
  choice : p.op = .pick (.tmp d) a b
  dst : dstOf all j = some d
  known : look st.env d = .bool g
  low : d < st.n
  skips : skips all j w [] B = true
  safe : safe all stack p.dst = true
  run : runC T K all n ((j, w) :: stack) st B = (st1, [])
  join : joinA g (ev (if w then st1.env else forget st.env B) a) (ev (if w then forget st.env B else st1.env) b) = some v
  put : ({ st with env := forget st.env B } : St).putO p.dst v = some st'
theorem runC_cons {T : Tab} {K : Kn} {all : Array Oper} {n : Nat} {stack : List (Nat × Bool)} {st : St} {o : Oper} {l : List Oper} {r : St × List Oper} (h : runC T K all (n + 1) stack st (o :: l) = r) :
    r = (st, o :: l) ∨
    (∃ st', o.guard = none ∧ stack = [] ∧ step2 T K st o = some st' ∧ runC T K all n [] st' l = r) ∨
    (∃ x st', o.guard = stack.head? ∧ stack ≠ [] ∧ pval T K st o = some x ∧ st.putO o.dst x = some st' ∧ safe all stack o.dst = true ∧ runC T K all n stack st' l = r) ∨
    (∃ st' rest B p st1 j d w g a b v, Grp T K all n stack st o l st' rest B p st1 j d w g a b v ∧ runC T K all n stack st' rest = r) := by
  unfold runC at h
  split at h
  · rename_i hg
    split at h
    · split at h
      · rename_i st' hs; exact .inr (.inl ⟨st', hg, rfl, hs, h⟩)
      · exact .inl h.symm
    · split at h
      · rename_i x hx
        split at h
        · rename_i st' hp
          split at h
          · rename_i hsafe; exact .inr (.inr (.inl ⟨x, st', hg, by simp, hx, hp, hsafe, h⟩))
          · exact .inl h.symm
        · exact .inl h.symm
      · exact .inl h.symm
  · split at h
    · exact .inl h.symm
    · rename_i j w hg
      split at h
      · rename_i p rest d hb hd
        split at h
        · rename_i d' a b hop
          split at h
          · rename_i g hk
            split at h
            · rename_i hc
              obtain ⟨rfl, hlow, hskip, hsafe⟩ := hc
              split at h
              · rename_i st1 hrun
                split at h
                · rename_i v hj
                  split at h
                  · rename_i st' hp
                    refine .inr (.inr (.inr ⟨st', rest, _, p, st1, j, d', w, g, a, b, v, ⟨?_, body_head _ _ hb, hop, hd, hk, hlow, hskip, hsafe, hrun, hj, hp⟩, h⟩))
                    rw [← hb]; exact (body_app _ _).symm
                  · exact .inl h.symm
                · exact .inl h.symm
              · exact .inl h.symm
            · exact .inl h.symm
          · exact .inl h.symm
        · exact .inl h.symm
      · exact .inl h.symm
theorem runC_kept {T : Tab} {K : Kn} {all : Array Oper} (n : Nat) : ∀ {stack : List (Nat × Bool)} {st st1 : St} {l : List Oper}, stack ≠ [] → runC T K all n stack st l = (st1, []) → Kept all stack st st1 l := by
  induction n with
  | zero =>
    intro stack st st1 l hs h
    simp only [runC, Prod.mk.injEq] at h
    obtain ⟨rfl, rfl⟩ := h
    exact ⟨rfl, rfl, by simp, fun _ _ => rfl⟩
  | succ n ih =>
    intro stack st st1 l hs h
    cases l with
    | nil =>
      simp only [runC, Prod.mk.injEq] at h
      obtain ⟨rfl, _⟩ := h
      exact ⟨rfl, rfl, by simp, fun _ _ => rfl⟩
    | cons o l =>
      rcases runC_cons h with h | ⟨st', _, h, _⟩ | ⟨x, st', hg, _, hx, hp, hsafe, h⟩ | ⟨st', rest, B, p, st2, j, d, w, g, a, b, v, G, h⟩
      · simp at h
      · exact absurd h hs
      · obtain ⟨k1, k2, k3, k4⟩ := ih hs h
        obtain ⟨p1, p2, p3, p4⟩ := putO_n hp
        refine ⟨k1.trans p1, k2.trans p2, ?_, ?_⟩
        · intro q hq
          rcases List.mem_cons.1 hq with rfl | hq
          · exact ⟨hsafe, p3⟩
          · have := k3 q hq
            exact ⟨this.1, fun d hd => by rw [← p2]; exact this.2 d hd⟩
        · intro i hi
          rw [k4 i (fun q hq => hi q (by simp [hq])), p4 i (hi o (by simp))]
      · obtain ⟨b1, b2, b3, b4⟩ := ih (by simp) G.run
        obtain ⟨k1, k2, k3, k4⟩ := ih hs h
        obtain ⟨p1, p2, p3, p4⟩ := putO_n G.put
        refine ⟨k1.trans p1, k2.trans p2, ?_, ?_⟩
        · intro q hq
          rw [G.list] at hq
          rcases List.mem_append.1 hq with hq | hq
          · exact ⟨safe_tail (b3 q hq).1, (b3 q hq).2⟩
          · rcases List.mem_cons.1 hq with rfl | hq
            · exact ⟨G.safe, p3⟩
            · exact ⟨(k3 q hq).1, fun d hd => by have := (k3 q hq).2 d hd; rw [p2] at this; exact this⟩
        · intro i hi
          rw [G.list] at hi
          rw [k4 i (fun q hq => hi q (by simp [hq])), p4 i (hi p (by simp))]
          rcases look_forget B st.env i with ⟨_, q, hq, e⟩ | ⟨e, _⟩
          · exact absurd e (hi q (by simp [hq]))
          · exact e

section
variable {c : Cx} {k : List It} {st st' : St} {all : Array Oper} {o : Oper} {l l' : List Oper}
theorem wpList_does {Q : Exit → Act → World → Prop} {suf : List Oper} {a : Act} {w : World} (hw : Region.wanted o (yielded all a.tmps) = true) (h : o.wp c.P a w (fun a w => wpList c.P all Q suf a w) Q) : wpList c.P all Q (o :: suf) a w := by
  simp only [wpList]
  rw [if_pos hw]
  exact .inl h
theorem wanted_met {stack : List (Nat × Bool)} {a : Act} (hg : o.guard = stack.head?) (hm : Met all stack a) : Region.wanted o (yielded all a.tmps) = true := by
  unfold Region.wanted
  cases stack with
  | nil => rw [hg]; rfl
  | cons g s => rw [hg]; simp only [List.head?_cons]; rw [hm g (by simp)]; simp
theorem runC_run {K : Kn} (hT : c.T.ok c.P) (hK : K.ok c.P) (n : Nat) : ∀ {stack : List (Nat × Bool)} {st st' : St} {l l' : List Oper}, runC c.T K all n stack st l = (st', l') →
    ∀ {a : Act} {w : World} {φ : List (Option Loc)} {fs : List Nat}, SRel c.S0 st a w φ fs → Bnd c w φ fs → Met all stack a → ∀ (Q : Exit → Act → World → Prop) (suf : List Oper),
      (∀ a' w' φ' fs', SRel c.S0 st' a' w' φ' fs' → Bnd c w' φ' fs' → Met all stack a' → wpList c.P all Q (l' ++ suf) a' w') → wpList c.P all Q (l ++ suf) a w := by
  induction n with
  | zero =>
    intro stack st st' l l' h a w φ fs hr hb hm Q suf hk
    simp only [runC, Prod.mk.injEq] at h
    obtain ⟨rfl, rfl⟩ := h
    exact hk a w φ fs hr hb hm
  | succ n ih =>
    intro stack st st' l l' h a w φ fs hr hb hm Q suf hk
    cases l with
    | nil =>
      simp only [runC, Prod.mk.injEq] at h
      obtain ⟨rfl, rfl⟩ := h
      exact hk a w φ fs hr hb hm
    | cons o l =>
      rcases runC_cons h with h' | ⟨st2, hg, hs, hst, h'⟩ | ⟨x, st2, hg, hs, hx, hp, hsafe, h'⟩ | ⟨st2, rest, B, p, st1, j, d, wt, g, oa, ob, v, G, h'⟩
      · have h := h'
        simp only [Prod.mk.injEq] at h
        obtain ⟨rfl, rfl⟩ := h
        exact hk a w φ fs hr hb hm
      · subst hs
        refine wpList_does (wanted_met (stack := []) (by simpa using hg) hm) (step2_does (all := all) hT hK hst _ _ a w φ fs hr hb (fun v w' φ' fs' h1 h2 => ?_))
        exact ih h' h1 h2 (fun g hg => by simp at hg) Q suf hk
      · refine wpList_does (wanted_met hg hm) (pval_does (all := all) hT hK hx hp _ _ a w φ fs hr hb (fun v w' φ' fs' h1 h2 => ?_))
        exact ih h' h1 h2 (hm.put hsafe) Q suf hk
      · have hkept := runC_kept n (by simp) G.run
        have hy := yielded_bool hr G.dst G.known G.low
        have hdB : ∀ o ∈ B, o.dst ≠ some d := fun o ho e => skips_dst G.skips o ho d e G.dst
        have hv := joinA_eq G.join
        have hdF : look (forget st.env B) d = .bool g := by
          rcases look_forget B st.env d with ⟨_, q, hq, e⟩ | ⟨e, _⟩
          · exact absurd e (hdB q hq)
          · rw [e, G.known]
        have hd1 : look st1.env d = .bool g := by rw [hkept.2.2.2 d hdB, G.known]
        rw [G.list, List.append_assoc]
        -- the choice, whichever way it went
        have fin : ∀ (a1 : Act) (w1 : World) (φ1 : List (Option Loc)) (fs1 : List Nat) (envC : List (Nat × A)), SRel c.S0 { st with env := envC } a1 w1 φ1 fs1 → Bnd c w1 φ1 fs1 → Met all stack a1 → look envC d = .bool g →
            (∀ i, look (forget st.env B) i = .any ∨ look (forget st.env B) i = look envC i) → v = (if g then ev envC oa else ev envC ob) → wpList c.P all Q (p :: (rest ++ suf)) a1 w1 := by
          intro a1 w1 φ1 fs1 envC h1 h2 h3 h4 h5 h6
          have hav : aval1 c.T envC st.heap p.op = some v := by
            rw [G.choice]
            simp only [aval1, ev, h4, h6]
          obtain ⟨u, e1, e2⟩ := aval1_run hT h1 hav
          refine wpList_does (wanted_met G.guard h3) ?_
          unfold Oper.wp
          rw [e1]
          have hF : SRel c.S0 { st with env := forget st.env B } a1 w1 φ1 fs1 := ⟨h1.defers, h1.size, fun i => by
            rcases h5 i with e | e
            · simp only; rw [e]; exact .any _
            · simp only; rw [e]; exact h1.env i, h1.heap, h1.nodup, h1.apart, h1.low⟩
          exact ih h' (hF.putO e2 G.put) h2 (h3.put G.safe) Q suf hk
        by_cases hgw : g = wt
        · -- taken
          have hm1 : Met all ((j, wt) :: stack) a := by
            intro x hx
            rcases List.mem_cons.1 hx with rfl | hx
            · rw [hy, hgw]
            · exact hm x hx
          refine ih G.run hr hb hm1 Q (p :: rest ++ suf) ?_
          intro a1 w1 φ1 fs1 h1 h2 h3
          refine fin a1 w1 φ1 fs1 st1.env ?_ h2 (fun x hx => h3 x (by simp [hx])) hd1 ?_ ?_
          · have e : ({ st with env := st1.env } : St) = st1 := by
              cases st; cases st1
              have := hkept.1; have := hkept.2.1
              simp_all
            rw [e]; exact h1
          · intro i
            rcases look_forget B st.env i with ⟨e, _⟩ | ⟨e, hne⟩
            · exact .inl e
            · exact .inr (by rw [e, hkept.2.2.2 i hne])
          · rw [hv, ← hgw]
            cases g <;> rfl
        · refine skip_all (c := c) (Q := Q) B [] st a G.skips hr (by rw [hy]; simpa using hgw) (by simp) (fun o ho => (hkept.2.2.1 o ho).2) (p :: rest ++ suf) ?_
          intro a1 h1 h2
          refine fin a1 w φ fs (forget st.env B) h1 hb ?_ hdF (fun i => .inr rfl) ?_
          · intro x hx
            rw [h2 x.1 ?_]
            · exact hm x hx
            · intro o ho hne e
              have := (hkept.2.2.1 o ho).1
              have := safe_tail this
              simp only [safe, List.all_eq_true] at this
              have := this x hx
              rw [← e] at this
              cases hod : o.dst with
              | none => rw [hod] at e; exact hne e.symm
              | some q => rw [hod] at this; simp at this
          · rw [hv]
            cases g <;> cases wt <;> simp_all
/-- Operations in a row, as far as runC comes. -/
theorem G.run {K : Kn} (n : Nat) (hT : c.T.ok c.P) (hK : K.ok c.P) (h : runC c.T K all n [] st l = (st', l')) (hk : G c (.ops all l' :: k) st') : G c (.ops all l :: k) st := by
  intro a w φ fs hr hb
  have := runC_run (c := c) (all := all) hT hK n h hr hb (fun g hg => by simp at hg) (cont c.P k c.Q) [] (fun a' w' φ' fs' h1 h2 _ => by rw [List.append_nil]; exact hk a' w' φ' fs' h1 h2)
  rw [List.append_nil] at this
  exact this
end
end Go.Proofs.Ytpdhoimpbiehkaa.Ab
