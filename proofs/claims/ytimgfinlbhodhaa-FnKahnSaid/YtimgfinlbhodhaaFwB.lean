/- Walking functions over abstract states: part 2. Plain definitions and lemmas about the machine; no program in sight. -/
import Derived.Test.YtimgfinlbhodhaaFwA
import Derived.Orders
import Derived.Laws.Cover3
import Derived.ChangeSlices
import Derived.ChangeArms
import Derived.ChangeOld
import Derived.SizedLaws
namespace Go.Proofs.Ytimgfinlbhodhaa.Ab
open Go
set_option linter.unusedVariables false
set_option linter.unusedSimpArgs false
def Kn := FuncId → List A → Option A
def Kn.ok (P : Program) (K : Kn) : Prop := ∀ f args r, K f args = some r → Enters P f ∧ AC P f args r
def KOk (P : Program) (x : FuncId × (List A → Option A)) : Prop := Enters P x.1 ∧ ∀ args r, x.2 args = some r → AC P x.1 args r
def kof : List (FuncId × (List A → Option A)) → Kn
 | [], _, _ => none
 | x :: r, f, args => if Nat.beq f x.1 then x.2 args else kof r f args
theorem kof_nil (P : Program) : Kn.ok P (kof []) := fun f args r h => by simp [kof] at h
theorem kof_cons {P : Program} {x : FuncId × (List A → Option A)} {l : List (FuncId × (List A → Option A))} (hx : KOk P x) (hl : Kn.ok P (kof l)) : Kn.ok P (kof (x :: l)) := by
 intro f args r h
 simp only [kof] at h
 split at h
 ·rename_i e
  rw [Nat.eq_of_beq_eq_true e]
  exact ⟨hx.1, hx.2 args r h⟩
 ·exact hl f args r h
mutual
theorem vw_pure {h : Heap} {x : A} (hp : pureA x = true) (hn : noRef x = true) : vw h x = x := by
 cases x with
 | row own sz es => cases own <;> simp_all [noRef, vw]
 | agg cs => simp only [vw, noRef, pureA] at *; rw [vwL_pure hp hn]
 | tup cs => simp only [vw, noRef, pureA] at *; rw [vwL_pure hp hn]
 | fn f cs => simp only [vw, noRef, pureA] at *; rw [vwL_pure hp hn]
 | box cs => simp [noRef] at hn
 | sl m lo len => simp [noRef] at hn
 | ptr m i j => simp [noRef] at hn
 | any => rfl
 | int k n => rfl
 | bool b => rfl
 | str s => rfl
 | nils => rfl
 | nilp => rfl
 | rp sz es i j => rfl
theorem vwL_pure {h : Heap} {xs : List A} (hp : pureL xs = true) (hn : noRefL xs = true) : vwL h xs = xs := by
 cases xs with
 | nil => rfl
 | cons x xs => simp only [pureL, noRefL, Bool.and_eq_true, vwL] at *; rw [vw_pure hp.1 hn.1, vwL_pure hp.2 hn.2]
end
def callV (K : Kn) (st : St) (o : Oper) : Option A :=
 match o.op with
 | .call c => match c.callee with
  | .value fo => match ev st.env fo with
   | .fn fid caps => match K fid (vwL st.heap (callArgs st.env c.args caps)) with
    | some res => if noLoan res || (pureL (callArgs st.env c.args caps) && noRefL (callArgs st.env c.args caps)) then some res else none
    | none => none
   | _ => none
  | _ => none
 | _ => none
def step2 (T : Tab) (K : Kn) (st : St) (o : Oper) : Option St :=
 match step1 T st o with
 | some st' => some st'
 | none => match callV K st o with
  | some res => (withH st (st.heap ++ (matA st.heap.length res).2)).putO o.dst (matA st.heap.length res).1
  | none => none
def pval (T : Tab) (K : Kn) (st : St) (o : Oper) : Option A :=
 match aval1 T st.env st.heap o.op with
 | some x => some x
 | none => match callV K st o with
  | some res => match (matA st.heap.length res).2 with
   | [] => some (matA st.heap.length res).1
   | _ => none
  | none => none
def Does (c : Cx) (all : Array Oper) (o : Oper) (st st' : St) : Prop :=
 ∀ (K : Act → World → Prop) (Q : Exit → Act → World → Prop) a w φ fs, SRel c.S0 st a w φ fs → Bnd c w φ fs → (∀ (v : Value) w' φ' fs', SRel c.S0 st' (a.put o.dst v) w' φ' fs' → Bnd c w' φ' fs' → K (a.put o.dst v) w') → o.wp c.P a w K Q
section
variable {c : Cx} {k : List It} {st st' : St} {all : Array Oper} {o : Oper} {l l' : List Oper}
theorem step1_does (hT : c.T.ok c.P) (hs : step1 c.T st o = some st') : Does c all o st st' := by
 intro K Q a w φ fs hr hb hk
 obtain ⟨nx, w', φ', fs', v, h1, h2, h3, h4, h5, h6⟩ := step1_run hT hr hs
 unfold Oper.wp
 rw [h1]
 have := hk v w' φ' fs' h3 (hb.step h4 (fun _ h => h) h5 h6)
 rcases h2 with rfl | ⟨rfl, rfl⟩
 ·exact this
 ·exact this
theorem call_does {K : Kn} (hK : K.ok c.P) {res : A} (hv : callV K st o = some res) {st' : St} (hp : (withH st (st.heap ++ (matA st.heap.length res).2)).putO o.dst (matA st.heap.length res).1 = some st') : Does c all o st st' := by
 intro Kc Q a w φ fs hr hb hk
 unfold callV at hv
 split at hv
 ·rename_i cl hop
  obtain ⟨callee, args, at_⟩ := cl
  simp only at hv
  split at hv
  ·rename_i fo
   split at hv
   ·rename_i fid caps hf
    split at hv
    ·rename_i res' hkv
     split at hv
     ·rename_i hcond
      injection hv with hv
      subst hv
      obtain ⟨he, hc⟩ := hK _ _ _ hkv
      have hfv := ev_rel hr fo
      rw [hf] at hfv
      generalize hfe : a.eval fo = fv at hfv
      cases hfv with
      | fn hcaps =>
       rename_i cvs
       have hargs : RelL w (Sof c.S0 fs) φ (callArgs st.env args caps) (args.toList.map a.eval ++ cvs) [] := (args_rel hr args.toList).append (f := []) (g := []) hcaps
       have hrun : (execOp a.eval o).run c.P w = .ok (.enter fid (args.toList.map a.eval ++ cvs).toArray) w := by
        unfold execOp
        rw [hop]
        simp only [resolve, hfe, Deferred.ofValue, invoke, Sem.run_bind, Sem.run_pure, Result.andThen_ok]
        have e : (#[] ++ Array.map a.eval args ++ cvs.toArray : Array Value) = (args.toList.map a.eval ++ cvs).toArray := by apply Array.ext'; simp
        rw [e]
        exact he _ w
       unfold Oper.wp
       rw [hrun]
       simp only [Oper.upon]
       have fin : ∀ v fb w', Rel w' (Sof c.S0 fb) [] res' v fb → fb.Nodup → (∀ b ∈ fb, w.heap.size ≤ b) → Fr (fun _ => False) w w' → (noLoan res' = true ∨ Rel w' (Sof (Sof c.S0 fs) fb) [] res' v fb) → Kc (a.put o.dst v) w' := by
        intro v fb w' h1 h2 h3 h4 h5
        obtain ⟨φ', fs', g1, g2, g3, g4⟩ := hr.called h1 h2 h3 h4 h5
        exact hk v w' φ' fs' (g1.putO g4 hp) (hb.step h4 (fun _ h => h.elim) g2 g3)
       by_cases hl : noLoan res' = true
       ·refine (hc w c.S0 _ hr.low (vwL_rel hr hargs)).mono ?_
        rintro e w' ⟨v, fb, rfl, h1, h2, h3, h4⟩
        exact fin v fb w' h1 h2 h3 h4 (.inl hl)
       ·have hcond' : (pureL (callArgs st.env args caps) && noRefL (callArgs st.env args caps)) = true := by
         cases hq : noLoan res' with
         | true => exact absurd hq hl
         | false => rw [hq] at hcond; simpa using hcond
        simp only [Bool.and_eq_true] at hcond'
        have hpure := pureL_rel hcond'.1 hargs
        rw [vwL_pure hcond'.1 hcond'.2] at hc
        refine (hc w (Sof c.S0 fs) _ (fun b hb => hb.elim (hr.low b) (hr.heap.lt b)) hpure).mono ?_
        rintro e w' ⟨v, fb, rfl, h1, h2, h3, h4⟩
        have h0 : Rel w' (Sof c.S0 fb) [] res' v fb := h1.frame (Fr.refl (fun _ => False) w') (fun b hb => .inl (hb.imp .inl id)) (fun _ h => h.elim) (Ext.refl _) (fun _ _ h => h)
        exact fin v fb w' h0 h2 h3 h4 (.inr h1)
     ·cases hv
    ·cases hv
   ·cases hv
  ·cases hv
 ·cases hv
theorem step2_does {K : Kn} (hT : c.T.ok c.P) (hK : K.ok c.P) (hs : step2 c.T K st o = some st') : Does c all o st st' := by
 unfold step2 at hs
 split at hs
 ·rename_i st1 h1; injection hs with hs; subst hs; exact step1_does hT h1
 ·split at hs
  ·rename_i res hv; exact call_does hK hv hs
  ·cases hs
theorem pval_does {K : Kn} (hT : c.T.ok c.P) (hK : K.ok c.P) {x : A} (hs : pval c.T K st o = some x) {st' : St} (hp : st.putO o.dst x = some st') : Does c all o st st' := by
 unfold pval at hs
 split at hs
 ·rename_i y hy
  injection hs with hs
  subst hs
  intro Kc Q a w φ fs hr hb hk
  obtain ⟨v, h1, h2⟩ := aval1_run hT hr hy
  unfold Oper.wp
  rw [h1]
  exact hk v w φ fs (hr.putO h2 hp) hb
 ·split at hs
  ·rename_i res hv
   split at hs
   ·rename_i hm
    injection hs with hs
    subst hs
    refine call_does hK hv ?_
    rw [hm]
    simpa [withH] using hp
   ·cases hs
  ·cases hs
end
end Go.Proofs.Ytimgfinlbhodhaa.Ab
namespace Go.Proofs.Ytimgfinlbhodhaa.Ab
open Go
set_option linter.unusedVariables false
set_option linter.unusedSimpArgs false
def dstOf (all : Array Oper) (j : Nat) : Option Nat := (all[j]?).bind (·.dst)
def joinA (g : Bool) : A → A → Option A
 | .bool p, .bool q => some (.bool (if g then p else q))
 | .int k p, .int k' q => if k = k' then some (.int k (if g then p else q)) else none
 | _, _ => none
def forget (env : List (Nat × A)) : List Oper → List (Nat × A)
 | [] => env
 | o :: l => match o.dst with
  | some d => (d, .any) :: forget env l
  | none => forget env l
def skips (all : Array Oper) (j : Nat) (w : Bool) : List Nat → List Oper → Bool
 | _, [] => true
 | D, o :: l => (match o.guard with
   | some (i, v) => (i == j && v == w) || (match dstOf all i with | some d => D.contains d | none => false)
   | none => false) && (match o.dst with
   | some d => dstOf all j != some d && skips all j w (d :: D) l
   | none => skips all j w D l)
def safe (all : Array Oper) (stack : List (Nat × Bool)) (d : Option Nat) : Bool := stack.all fun g => match d with
 | some d => dstOf all g.1 != some d
 | none => true
def body (cur : Option (Nat × Bool)) : List Oper → List Oper × List Oper
 | [] => ([], [])
 | o :: l => if o.guard = cur then ([], o :: l) else (o :: (body cur l).1, (body cur l).2)
def runC (T : Tab) (K : Kn) (all : Array Oper) : Nat → List (Nat × Bool) → St → List Oper → St × List Oper
 | 0, _, st, l => (st, l)
 | _ + 1, _, st, [] => (st, [])
 | n + 1, stack, st, o :: l =>
  if o.guard = stack.head? then
   match stack with
   | [] => match step2 T K st o with
    | some st' => runC T K all n [] st' l
    | none => (st, o :: l)
   | g :: s => match pval T K st o with
    | some x => match st.putO o.dst x with
     | some st' => if safe all (g :: s) o.dst then runC T K all n (g :: s) st' l else (st, o :: l)
     | none => (st, o :: l)
    | none => (st, o :: l)
  else match o.guard with
   | none => (st, o :: l)
   | some (j, w) => match (body stack.head? (o :: l)).2, dstOf all j with
    | p :: rest, some d => match p.op with
     | .pick (.tmp d') a b => match look st.env d with
      | .bool g =>
       if d' = d ∧ d < st.n ∧ skips all j w [] (body stack.head? (o :: l)).1 = true ∧ safe all stack p.dst = true then
        match runC T K all n ((j, w) :: stack) st (body stack.head? (o :: l)).1 with
        | (st1, []) =>
         match joinA g (ev (if w then st1.env else forget st.env (body stack.head? (o :: l)).1) a) (ev (if w then forget st.env (body stack.head? (o :: l)).1 else st1.env) b) with
         | some v => match ({ st with env := forget st.env (body stack.head? (o :: l)).1 } : St).putO p.dst v with
          | some st' => runC T K all n stack st' rest
          | none => (st, o :: l)
         | none => (st, o :: l)
        | _ => (st, o :: l)
       else (st, o :: l)
      | _ => (st, o :: l)
     | _ => (st, o :: l)
    | _, _ => (st, o :: l)
theorem body_app (cur : Option (Nat × Bool)) (l : List Oper) : (body cur l).1 ++ (body cur l).2 = l := by
 induction l with
 | nil => rfl
 | cons o l ih =>
  simp only [body]
  split
  ·rfl
  ·simp [ih]
theorem body_head (cur : Option (Nat × Bool)) (l : List Oper) {p : Oper} {r : List Oper} (h : (body cur l).2 = p :: r) : p.guard = cur := by
 induction l with
 | nil => simp [body] at h
 | cons o l ih =>
  simp only [body] at h
  split at h
  ·rename_i e
   simp only at h
   injection h with h1 h2
   rw [← h1]; exact e
  ·exact ih h
section
variable {c : Cx} {st st' : St} {all : Array Oper} {o : Oper} {l l' : List Oper} {Q : Exit → Act → World → Prop}
def Met (all : Array Oper) (stack : List (Nat × Bool)) (a : Act) : Prop := ∀ g ∈ stack, yielded all a.tmps g.1 = some g.2
theorem yielded_put {all : Array Oper} {a : Act} {j : Nat} {d : Option Nat} {v : Value} (h : ∀ e, d = some e → dstOf all j ≠ some e) : yielded all (a.put d v).tmps j = yielded all a.tmps j := by
 unfold yielded
 cases hd : (all[j]?).bind (·.dst) with
 | none => rfl
 | some t =>
  cases d with
  | none => rfl
  | some e =>
   have : e ≠ t := fun x => h e rfl (by unfold dstOf; rw [hd, x])
   simp only [Option.bind_some, Act.put]
   rw [Array.getElem?_setIfInBounds_ne this]
theorem Met.put {stack : List (Nat × Bool)} {a : Act} {d : Option Nat} {v : Value} (h : Met all stack a) (hs : safe all stack d = true) : Met all stack (a.put d v) := by
 intro g hg
 rw [yielded_put]
 ·exact h g hg
 ·intro e he
  simp only [safe, List.all_eq_true] at hs
  have := hs g hg
  rw [he] at this
  simpa using this
theorem skip_all {j : Nat} {w : Bool} {S0 : Nat → Prop} {φ : List (Option Loc)} {fs : List Nat} {wl : World} (l : List Oper) : ∀ (D : List Nat) (st : St) (a : Act), skips all j w D l = true → SRel S0 st a wl φ fs → yielded all a.tmps j ≠ some w →
  (∀ d ∈ D, a.tmps.getD d undef = undef) → (∀ o ∈ l, ∀ d, o.dst = some d → d < st.n) → ∀ suf, (∀ a', SRel S0 { st with env := forget st.env l } a' wl φ fs → (∀ i, (∀ o ∈ l, dstOf all i ≠ none → o.dst ≠ dstOf all i) → yielded all a'.tmps i = yielded all a.tmps i) → wpList c.P all Q suf a' wl) → wpList c.P all Q (l ++ suf) a wl := by
 induction l with
 | nil => intro D st a hs hr hj hD hn suf hk; exact hk a hr (fun _ _ => rfl)
 | cons o l ih =>
  intro D st a hs hr hj hD hn suf hk
  simp only [skips, Bool.and_eq_true] at hs
  obtain ⟨h1, h2⟩ := hs
  have hw : Region.wanted o (yielded all a.tmps) = false := by
   unfold Region.wanted
   cases hg : o.guard with
   | none => rw [hg] at h1; simp at h1
   | some g =>
    obtain ⟨i, v⟩ := g
    rw [hg] at h1
    simp only [Bool.or_eq_true, Bool.and_eq_true, beq_iff_eq] at h1
    rcases h1 with ⟨rfl, rfl⟩ | h1
    ·simpa using hj
    ·cases hd : dstOf all i with
     | none => rw [hd] at h1; simp at h1
     | some d =>
      rw [hd] at h1
      have := hD d (by simpa using h1)
      have hy : yielded all a.tmps i = none := by
       unfold yielded
       unfold dstOf at hd
       rw [hd]
       simp only [Option.bind_some]
       cases ht : a.tmps[d]? with
       | none => rfl
       | some x =>
        have : x = undef := by
         have e := this
         simp only [Array.getD_eq_getD_getElem?, ht, Option.getD_some] at e
         exact e
        rw [this]
        rfl
      simp [hy]
  show wpList c.P all Q (o :: (l ++ suf)) a wl
  simp only [wpList]
  rw [if_neg (by rw [hw]; simp)]
  cases hd : o.dst with
  | none =>
   rw [hd] at h2
   simp only at h2
   have := ih D st a h2 hr hj hD (fun x hx => hn x (by simp [hx])) suf (fun a' hr' hy => hk a' (by simpa [forget, hd] using hr') (fun i hi => hy i (fun x hx => hi x (by simp [hx]))))
   simpa [Act.put] using this
  | some d =>
   rw [hd] at h2
   simp only [Bool.and_eq_true, bne_iff_ne, ne_eq] at h2
   obtain ⟨h2, h3⟩ := h2
   have hdn := hn o (by simp) d hd
   have hr2 := hr.put (x := .any) (.any undef) hdn
   have hj2 : yielded all (a.put (some d) undef).tmps j = yielded all a.tmps j := yielded_put (fun e he => by injection he with he; subst he; exact h2)
   refine ih (d :: D) (st.put d .any) (a.put (some d) undef) h3 hr2 (by rw [hj2]; exact hj) ?_ (fun x hx => hn x (by simp [hx])) suf ?_
   ·intro e he
    have hsz := hr.size
    by_cases hed : e = d
    ·subst hed; simp [Act.put, Array.getD, hsz, hdn]
    ·have hmem : e ∈ D := by
      rcases List.mem_cons.1 he with h | h
      ·exact absurd h hed
      ·exact h
     have := hD e hmem
     simp only [Act.put, Array.getD_eq_getD_getElem?] at this ⊢
     rw [Array.getElem?_setIfInBounds_ne (fun h => hed h.symm)]
     exact this
   ·intro a' hr' hy
    refine hk a' ⟨hr'.defers, hr'.size, fun i => ?_, hr'.heap, hr'.nodup, hr'.apart, hr'.low⟩ (fun i hi => ?_)
    ·have := hr'.env i
     have e : look (forget (st.put d .any).env l) i = look (forget st.env (o :: l)) i := by
      have hcons : forget st.env (o :: l) = (d, .any) :: forget st.env l := by simp [forget, hd]
      rw [hcons]
      have gen : ∀ (l : List Oper) (env : List (Nat × A)), look (forget ((d, .any) :: env) l) i = look ((d, .any) :: forget env l) i := by
       intro l
       induction l with
       | nil => intro env; rfl
       | cons p l ihl =>
        intro env
        cases hp : p.dst with
        | none => simp only [forget, hp]; exact ihl env
        | some e =>
         simp only [forget, hp, look]
         have := ihl env
         simp only [look] at this
         split
         ·split <;> rfl
         ·rw [this]
      exact gen l st.env
     rw [← e]
     exact this
    ·rw [hy i (fun x hx => hi x (by simp [hx]))]
     exact yielded_put (fun e he => by
      injection he with he
      subst he
      intro hq
      exact hi o (by simp) (by rw [hq]; simp) (by rw [hd, hq]))
end
end Go.Proofs.Ytimgfinlbhodhaa.Ab
namespace Go.Proofs.Ytimgfinlbhodhaa.Ab
open Go
set_option linter.unusedVariables false
set_option linter.unusedSimpArgs false
theorem joinA_eq {g : Bool} {x y v : A} (h : joinA g x y = some v) : v = if g then x else y := by
 unfold joinA at h
 split at h
 ·injection h with h; subst h; cases g <;> rfl
 ·split at h
  ·rename_i e; injection h with h; subst h e; cases g <;> rfl
  ·cases h
 ·cases h
theorem putO_n {st st' : St} {d : Option Nat} {x : A} (h : st.putO d x = some st') : st'.heap = st.heap ∧ st'.n = st.n ∧ (∀ e, d = some e → e < st.n) ∧ ∀ i, d ≠ some i → look st'.env i = look st.env i := by
 cases d with
 | none => simp [St.putO] at h; subst h; exact ⟨rfl, rfl, by simp, fun _ _ => rfl⟩
 | some d =>
  simp only [St.putO] at h
  split at h
  ·rename_i hd
   injection h with h
   subst h
   refine ⟨rfl, rfl, fun e he => by injection he with he; subst he; exact hd, fun i hi => ?_⟩
   have : Nat.beq i d = false := by
    cases hb : Nat.beq i d
    ·rfl
    ·exact absurd (by rw [Nat.eq_of_beq_eq_true hb]) hi
   simp [St.put, look, this]
  ·cases h
theorem look_forget (l : List Oper) (env : List (Nat × A)) (i : Nat) : (look (forget env l) i = .any ∧ ∃ o ∈ l, o.dst = some i) ∨ (look (forget env l) i = look env i ∧ ∀ o ∈ l, o.dst ≠ some i) := by
 induction l with
 | nil => exact .inr ⟨rfl, by simp⟩
 | cons o l ih =>
  cases hd : o.dst with
  | none =>
   simp only [forget, hd]
   rcases ih with ⟨h1, p, h2, h3⟩ | ⟨h1, h2⟩
   ·exact .inl ⟨h1, p, by simp [h2], h3⟩
   ·refine .inr ⟨h1, fun p hp => ?_⟩
    rcases List.mem_cons.1 hp with rfl | hp
    ·rw [hd]; simp
    ·exact h2 p hp
  | some d =>
   simp only [forget, hd, look]
   cases hb : Nat.beq i d with
   | true =>
    have := Nat.eq_of_beq_eq_true hb
    subst this
    exact .inl ⟨rfl, o, by simp, hd⟩
   | false =>
    have hne : d ≠ i := fun e => by subst e; simp at hb
    rcases ih with ⟨h1, p, h2, h3⟩ | ⟨h1, h2⟩
    ·exact .inl ⟨by simpa using h1, p, by simp [h2], h3⟩
    ·refine .inr ⟨by simpa using h1, fun p hp => ?_⟩
     rcases List.mem_cons.1 hp with rfl | hp
     ·rw [hd]; simpa using hne
     ·exact h2 p hp
theorem safe_tail {all : Array Oper} {g : Nat × Bool} {s : List (Nat × Bool)} {d : Option Nat} (h : safe all (g :: s) d = true) : safe all s d = true := by
 simp only [safe, List.all_cons, Bool.and_eq_true] at h ⊢
 exact h.2
theorem skips_dst {all : Array Oper} {j : Nat} {w : Bool} {l : List Oper} : ∀ {D : List Nat}, skips all j w D l = true → ∀ o ∈ l, ∀ d, o.dst = some d → dstOf all j ≠ some d := by
 induction l with
 | nil => intro D _ o ho; simp at ho
 | cons p l ih =>
  intro D h o ho d hd
  simp only [skips, Bool.and_eq_true] at h
  obtain ⟨_, h⟩ := h
  rcases List.mem_cons.1 ho with rfl | ho
  ·rw [hd] at h
   simp only [Bool.and_eq_true, bne_iff_ne, ne_eq] at h
   exact h.1
  ·cases hp : p.dst with
   | none => rw [hp] at h; exact ih h o ho d hd
   | some e =>
    rw [hp] at h
    simp only [Bool.and_eq_true] at h
    exact ih h.2 o ho d hd
def Kept (all : Array Oper) (stack : List (Nat × Bool)) (st st1 : St) (l : List Oper) : Prop :=
 st1.heap = st.heap ∧ st1.n = st.n ∧ (∀ o ∈ l, safe all stack o.dst = true ∧ ∀ d, o.dst = some d → d < st.n) ∧ ∀ i, (∀ o ∈ l, o.dst ≠ some i) → look st1.env i = look st.env i
structure Grp (T : Tab) (K : Kn) (all : Array Oper) (n : Nat) (stack : List (Nat × Bool)) (st : St) (o : Oper) (l : List Oper) (st' : St) (rest B : List Oper) (p : Oper) (st1 : St) (j d : Nat) (w g : Bool) (a b : Operand) (v : A) : Prop where
 list : o :: l = B ++ p :: rest
 guard : p.guard = stack.head?
 choice : p.op = .pick (.tmp d) a b
 dst : dstOf all j = some d
 known : look st.env d = .bool g
 low : d < st.n
 skips : skips all j w [] B = true
 safe : safe all stack p.dst = true
 run : runC T K all n ((j, w) :: stack) st B = (st1, [])
 join : joinA g (ev (if w then st1.env else forget st.env B) a) (ev (if w then forget st.env B else st1.env) b) = some v
 put : ({ st with env := forget st.env B } : St).putO p.dst v = some st'
theorem runC_cons {T : Tab} {K : Kn} {all : Array Oper} {n : Nat} {stack : List (Nat × Bool)} {st : St} {o : Oper} {l : List Oper} {r : St × List Oper} (h : runC T K all (n + 1) stack st (o :: l) = r) :
  r = (st, o :: l) ∨
  (∃ st', o.guard = none ∧ stack = [] ∧ step2 T K st o = some st' ∧ runC T K all n [] st' l = r) ∨
  (∃ x st', o.guard = stack.head? ∧ stack ≠ [] ∧ pval T K st o = some x ∧ st.putO o.dst x = some st' ∧ safe all stack o.dst = true ∧ runC T K all n stack st' l = r) ∨
  (∃ st' rest B p st1 j d w g a b v, Grp T K all n stack st o l st' rest B p st1 j d w g a b v ∧ runC T K all n stack st' rest = r) := by
 unfold runC at h
 split at h
 ·rename_i hg
  split at h
  ·split at h
   ·rename_i st' hs; exact .inr (.inl ⟨st', hg, rfl, hs, h⟩)
   ·exact .inl h.symm
  ·split at h
   ·rename_i x hx
    split at h
    ·rename_i st' hp
     split at h
     ·rename_i hsafe; exact .inr (.inr (.inl ⟨x, st', hg, by simp, hx, hp, hsafe, h⟩))
     ·exact .inl h.symm
    ·exact .inl h.symm
   ·exact .inl h.symm
 ·split at h
  ·exact .inl h.symm
  ·rename_i j w hg
   split at h
   ·rename_i p rest d hb hd
    split at h
    ·rename_i d' a b hop
     split at h
     ·rename_i g hk
      split at h
      ·rename_i hc
       obtain ⟨rfl, hlow, hskip, hsafe⟩ := hc
       split at h
       ·rename_i st1 hrun
        split at h
        ·rename_i v hj
         split at h
         ·rename_i st' hp
          refine .inr (.inr (.inr ⟨st', rest, _, p, st1, j, d', w, g, a, b, v, ⟨?_, body_head _ _ hb, hop, hd, hk, hlow, hskip, hsafe, hrun, hj, hp⟩, h⟩))
          rw [← hb]; exact (body_app _ _).symm
         ·exact .inl h.symm
        ·exact .inl h.symm
       ·exact .inl h.symm
      ·exact .inl h.symm
     ·exact .inl h.symm
    ·exact .inl h.symm
   ·exact .inl h.symm
theorem runC_kept {T : Tab} {K : Kn} {all : Array Oper} (n : Nat) : ∀ {stack : List (Nat × Bool)} {st st1 : St} {l : List Oper}, stack ≠ [] → runC T K all n stack st l = (st1, []) → Kept all stack st st1 l := by
 induction n with
 | zero =>
  intro stack st st1 l hs h
  simp only [runC, Prod.mk.injEq] at h
  obtain ⟨rfl, rfl⟩ := h
  exact ⟨rfl, rfl, by simp, fun _ _ => rfl⟩
 | succ n ih =>
  intro stack st st1 l hs h
  cases l with
  | nil =>
   simp only [runC, Prod.mk.injEq] at h
   obtain ⟨rfl, _⟩ := h
   exact ⟨rfl, rfl, by simp, fun _ _ => rfl⟩
  | cons o l =>
   rcases runC_cons h with h | ⟨st', _, h, _⟩ | ⟨x, st', hg, _, hx, hp, hsafe, h⟩ | ⟨st', rest, B, p, st2, j, d, w, g, a, b, v, G, h⟩
   ·simp at h
   ·exact absurd h hs
   ·obtain ⟨k1, k2, k3, k4⟩ := ih hs h
    obtain ⟨p1, p2, p3, p4⟩ := putO_n hp
    refine ⟨k1.trans p1, k2.trans p2, ?_, ?_⟩
    ·intro q hq
     rcases List.mem_cons.1 hq with rfl | hq
     ·exact ⟨hsafe, p3⟩
     ·have := k3 q hq
      exact ⟨this.1, fun d hd => by rw [← p2]; exact this.2 d hd⟩
    ·intro i hi
     rw [k4 i (fun q hq => hi q (by simp [hq])), p4 i (hi o (by simp))]
   ·obtain ⟨b1, b2, b3, b4⟩ := ih (by simp) G.run
    obtain ⟨k1, k2, k3, k4⟩ := ih hs h
    obtain ⟨p1, p2, p3, p4⟩ := putO_n G.put
    refine ⟨k1.trans p1, k2.trans p2, ?_, ?_⟩
    ·intro q hq
     rw [G.list] at hq
     rcases List.mem_append.1 hq with hq | hq
     ·exact ⟨safe_tail (b3 q hq).1, (b3 q hq).2⟩
     ·rcases List.mem_cons.1 hq with rfl | hq
      ·exact ⟨G.safe, p3⟩
      ·exact ⟨(k3 q hq).1, fun d hd => by have := (k3 q hq).2 d hd; rw [p2] at this; exact this⟩
    ·intro i hi
     rw [G.list] at hi
     rw [k4 i (fun q hq => hi q (by simp [hq])), p4 i (hi p (by simp))]
     rcases look_forget B st.env i with ⟨_, q, hq, e⟩ | ⟨e, _⟩
     ·exact absurd e (hi q (by simp [hq]))
     ·exact e
section
variable {c : Cx} {k : List It} {st st' : St} {all : Array Oper} {o : Oper} {l l' : List Oper}
theorem wpList_does {Q : Exit → Act → World → Prop} {suf : List Oper} {a : Act} {w : World} (hw : Region.wanted o (yielded all a.tmps) = true) (h : o.wp c.P a w (fun a w => wpList c.P all Q suf a w) Q) : wpList c.P all Q (o :: suf) a w := by
 simp only [wpList]
 rw [if_pos hw]
 exact .inl h
theorem wanted_met {stack : List (Nat × Bool)} {a : Act} (hg : o.guard = stack.head?) (hm : Met all stack a) : Region.wanted o (yielded all a.tmps) = true := by
 unfold Region.wanted
 cases stack with
 | nil => rw [hg]; rfl
 | cons g s => rw [hg]; simp only [List.head?_cons]; rw [hm g (by simp)]; simp
theorem runC_run {K : Kn} (hT : c.T.ok c.P) (hK : K.ok c.P) (n : Nat) : ∀ {stack : List (Nat × Bool)} {st st' : St} {l l' : List Oper}, runC c.T K all n stack st l = (st', l') →
  ∀ {a : Act} {w : World} {φ : List (Option Loc)} {fs : List Nat}, SRel c.S0 st a w φ fs → Bnd c w φ fs → Met all stack a → ∀ (Q : Exit → Act → World → Prop) (suf : List Oper),
   (∀ a' w' φ' fs', SRel c.S0 st' a' w' φ' fs' → Bnd c w' φ' fs' → Met all stack a' → wpList c.P all Q (l' ++ suf) a' w') → wpList c.P all Q (l ++ suf) a w := by
 induction n with
 | zero =>
  intro stack st st' l l' h a w φ fs hr hb hm Q suf hk
  simp only [runC, Prod.mk.injEq] at h
  obtain ⟨rfl, rfl⟩ := h
  exact hk a w φ fs hr hb hm
 | succ n ih =>
  intro stack st st' l l' h a w φ fs hr hb hm Q suf hk
  cases l with
  | nil =>
   simp only [runC, Prod.mk.injEq] at h
   obtain ⟨rfl, rfl⟩ := h
   exact hk a w φ fs hr hb hm
  | cons o l =>
   rcases runC_cons h with h' | ⟨st2, hg, hs, hst, h'⟩ | ⟨x, st2, hg, hs, hx, hp, hsafe, h'⟩ | ⟨st2, rest, B, p, st1, j, d, wt, g, oa, ob, v, G, h'⟩
   ·have h := h'
    simp only [Prod.mk.injEq] at h
    obtain ⟨rfl, rfl⟩ := h
    exact hk a w φ fs hr hb hm
   ·subst hs
    refine wpList_does (wanted_met (stack := []) (by simpa using hg) hm) (step2_does (all := all) hT hK hst _ _ a w φ fs hr hb (fun v w' φ' fs' h1 h2 => ?_))
    exact ih h' h1 h2 (fun g hg => by simp at hg) Q suf hk
   ·refine wpList_does (wanted_met hg hm) (pval_does (all := all) hT hK hx hp _ _ a w φ fs hr hb (fun v w' φ' fs' h1 h2 => ?_))
    exact ih h' h1 h2 (hm.put hsafe) Q suf hk
   ·have hkept := runC_kept n (by simp) G.run
    have hy := yielded_bool hr G.dst G.known G.low
    have hdB : ∀ o ∈ B, o.dst ≠ some d := fun o ho e => skips_dst G.skips o ho d e G.dst
    have hv := joinA_eq G.join
    have hdF : look (forget st.env B) d = .bool g := by
     rcases look_forget B st.env d with ⟨_, q, hq, e⟩ | ⟨e, _⟩
     ·exact absurd e (hdB q hq)
     ·rw [e, G.known]
    have hd1 : look st1.env d = .bool g := by rw [hkept.2.2.2 d hdB, G.known]
    rw [G.list, List.append_assoc]
    -- the choice, whichever way it went
    have fin : ∀ (a1 : Act) (w1 : World) (φ1 : List (Option Loc)) (fs1 : List Nat) (envC : List (Nat × A)), SRel c.S0 { st with env := envC } a1 w1 φ1 fs1 → Bnd c w1 φ1 fs1 → Met all stack a1 → look envC d = .bool g →
      (∀ i, look (forget st.env B) i = .any ∨ look (forget st.env B) i = look envC i) → v = (if g then ev envC oa else ev envC ob) → wpList c.P all Q (p :: (rest ++ suf)) a1 w1 := by
     intro a1 w1 φ1 fs1 envC h1 h2 h3 h4 h5 h6
     have hav : aval1 c.T envC st.heap p.op = some v := by
      rw [G.choice]
      simp only [aval1, ev, h4, h6]
     obtain ⟨u, e1, e2⟩ := aval1_run hT h1 hav
     refine wpList_does (wanted_met G.guard h3) ?_
     unfold Oper.wp
     rw [e1]
     have hF : SRel c.S0 { st with env := forget st.env B } a1 w1 φ1 fs1 := ⟨h1.defers, h1.size, fun i => by
      rcases h5 i with e | e
      ·simp only; rw [e]; exact .any _
      ·simp only; rw [e]; exact h1.env i, h1.heap, h1.nodup, h1.apart, h1.low⟩
     exact ih h' (hF.putO e2 G.put) h2 (h3.put G.safe) Q suf hk
    by_cases hgw : g = wt
    ·-- taken
     have hm1 : Met all ((j, wt) :: stack) a := by
      intro x hx
      rcases List.mem_cons.1 hx with rfl | hx
      ·rw [hy, hgw]
      ·exact hm x hx
     refine ih G.run hr hb hm1 Q (p :: rest ++ suf) ?_
     intro a1 w1 φ1 fs1 h1 h2 h3
     refine fin a1 w1 φ1 fs1 st1.env ?_ h2 (fun x hx => h3 x (by simp [hx])) hd1 ?_ ?_
     ·have e : ({ st with env := st1.env } : St) = st1 := by
       cases st; cases st1
       have := hkept.1; have := hkept.2.1
       simp_all
      rw [e]; exact h1
     ·intro i
      rcases look_forget B st.env i with ⟨e, _⟩ | ⟨e, hne⟩
      ·exact .inl e
      ·exact .inr (by rw [e, hkept.2.2.2 i hne])
     ·rw [hv, ← hgw]
      cases g <;> rfl
    ·refine skip_all (c := c) (Q := Q) B [] st a G.skips hr (by rw [hy]; simpa using hgw) (by simp) (fun o ho => (hkept.2.2.1 o ho).2) (p :: rest ++ suf) ?_
     intro a1 h1 h2
     refine fin a1 w φ fs (forget st.env B) h1 hb ?_ hdF (fun i => .inr rfl) ?_
     ·intro x hx
      rw [h2 x.1 ?_]
      ·exact hm x hx
      ·intro o ho hne e
       have := (hkept.2.2.1 o ho).1
       have := safe_tail this
       simp only [safe, List.all_eq_true] at this
       have := this x hx
       rw [← e] at this
       cases hod : o.dst with
       | none => rw [hod] at e; exact hne e.symm
       | some q => rw [hod] at this; simp at this
     ·rw [hv]
      cases g <;> cases wt <;> simp_all
theorem G.run {K : Kn} (n : Nat) (hT : c.T.ok c.P) (hK : K.ok c.P) (h : runC c.T K all n [] st l = (st', l')) (hk : G c (.ops all l' :: k) st') : G c (.ops all l :: k) st := by
 intro a w φ fs hr hb
 have := runC_run (c := c) (all := all) hT hK n h hr hb (fun g hg => by simp at hg) (cont c.P k c.Q) [] (fun a' w' φ' fs' h1 h2 _ => by rw [List.append_nil]; exact hk a' w' φ' fs' h1 h2)
 rw [List.append_nil] at this
 exact this
end
end Go.Proofs.Ytimgfinlbhodhaa.Ab
namespace Go.Proofs.Ytimgfinlbhodhaa.Ab
open Go
set_option linter.unusedVariables false
set_option linter.unusedSimpArgs false
def eff (T : Tab) (K : Kn) (env : List (Nat × A)) (h : Heap) : Op → Option (A × Heap)
 | .alloc t => match anew T env (.alloc t) with
  | some (b, true) => some (.sl h.length 0 b.2.length, hput h h.length b)
  | some (b, false) => some (.ptr h.length 0 0, hput h h.length b)
  | none => none
 | .box t x => match anew T env (.box t x) with
  | some (b, true) => some (.sl h.length 0 b.2.length, hput h h.length b)
  | some (b, false) => some (.ptr h.length 0 0, hput h h.length b)
  | none => none
 | .buildSlice t n ps => match anew T env (.buildSlice t n ps) with
  | some (b, true) => some (.sl h.length 0 b.2.length, hput h h.length b)
  | some (b, false) => some (.ptr h.length 0 0, hput h h.length b)
  | none => none
 | .makeSlice t x y => match anew T env (.makeSlice t x y) with
  | some (b, true) => some (.sl h.length 0 b.2.length, hput h h.length b)
  | some (b, false) => some (.ptr h.length 0 0, hput h h.length b)
  | none => none
 | .store t p x => match astore T env h (.store t p x) with
  | some (m, b) => some (.any, h.set m (some b))
  | none => none
 | .call c => match c.callee with
  | .value fo => match ev env fo with
   | .fn fid caps => match K fid (vwL h (callArgs env c.args caps)) with
    | some res => if noLoan res || (pureL (callArgs env c.args caps) && noRefL (callArgs env c.args caps)) then some ((matA h.length res).1, h ++ (matA h.length res).2) else none
    | none => none
   | _ => none
  | .builtin .append => match aappend T env h (.call c) with
   | some (b, k) => some (.sl h.length 0 b.2.length, hput (hkill h k) h.length b)
   | none => none
  | .builtin .copy => match acopy T env h (.call c) with
   | some (m, b, n) => some (.int .i64 (n : Int), h.set m (some b))
   | none => none
  | _ => (aval1 T env h (.call c)).map fun x => (x, h)
 | op => (aval1 T env h op).map fun x => (x, h)
theorem eff_step2 {T : Tab} {K : Kn} {st st' : St} {o : Oper} {x : A} {h : Heap} (he : eff T K st.env st.heap o.op = some (x, h)) (hp : (withH st h).putO o.dst x = some st') : step2 T K st o = some st' := by
 obtain ⟨dst, op, ty, pos, af, g⟩ := o
 have plain : (match aval1 T st.env st.heap op with | some x => st.putO dst x | none => none) = none ∨ True := .inr trivial
 have wh : ∀ st : St, withH st st.heap = st := fun st => rfl
 cases op
 case call c =>
  obtain ⟨callee, args, at_⟩ := c
  unfold step2 step1
  cases callee with
  | value fo =>
   simp only [eff] at he
   split at he
   ·rename_i fid caps hf
    split at he
    ·rename_i res hk
     split at he
     ·rename_i hc
      simp only [Option.some.injEq, Prod.mk.injEq] at he
      obtain ⟨rfl, rfl⟩ := he
      simp only [aval1, callV, hf, hk, hc, if_true]
      exact hp
     ·cases he
    ·cases he
   ·cases he
  | invoke r m => simp [eff, aval1] at he
  | builtin b =>
   by_cases hb : b = .append
   ·subst hb
    simp only [eff] at he
    split at he
    ·rename_i b k hb
     simp only [Option.some.injEq, Prod.mk.injEq] at he
     obtain ⟨rfl, rfl⟩ := he
     simp only [hb]
     simp only at hp
     rw [hp]
    ·cases he
   ·by_cases hbc : b = .copy
    ·subst hbc
     simp only [eff] at he
     split at he
     ·rename_i m b n hb
      simp only [Option.some.injEq, Prod.mk.injEq] at he
      obtain ⟨rfl, rfl⟩ := he
      simp only [hb]
      simp only at hp
      rw [hp]
     ·cases he
    have he2 : (aval1 T st.env st.heap (.call ⟨.builtin b, args, at_⟩)).map (fun x => (x, st.heap)) = some (x, h) := by
     cases b <;> first | exact absurd rfl hb | exact absurd rfl hbc | exact he
    cases hv : aval1 T st.env st.heap (.call ⟨.builtin b, args, at_⟩) with
    | none => rw [hv] at he2; cases he2
    | some y =>
     rw [hv] at he2
     simp only [Option.map_some, Option.some.injEq, Prod.mk.injEq] at he2
     obtain ⟨rfl, rfl⟩ := he2
     rw [wh] at hp
     simp only at hp
     cases b <;> first | exact absurd rfl hb | exact absurd rfl hbc | simp only [hv, hp]
 case store t p x =>
  simp only [eff] at he
  unfold step2 step1
  split at he
  ·rename_i m b hb
   simp only [Option.some.injEq, Prod.mk.injEq] at he
   obtain ⟨rfl, rfl⟩ := he
   simp only at hp
   simp only [hb, hp]
  ·cases he
 case alloc | box | buildSlice | makeSlice =>
  simp only [eff] at he
  unfold step2 step1
  split at he
  ·rename_i b hb
   simp only [Option.some.injEq, Prod.mk.injEq] at he
   obtain ⟨rfl, rfl⟩ := he
   simp only at hp
   simp only [hb, hp]
  ·rename_i b hb
   simp only [Option.some.injEq, Prod.mk.injEq] at he
   obtain ⟨rfl, rfl⟩ := he
   simp only at hp
   simp only [hb, hp]
  ·cases he
 all_goals
  simp only [eff] at he
  unfold step2 step1
  obtain ⟨y, hv, he⟩ := Option.map_eq_some_iff.1 he
  simp only [Prod.mk.injEq] at he
  obtain ⟨rfl, rfl⟩ := he
  rw [wh] at hp
  simp only at hp
  simp only [hv, hp]
section congr
variable {T : Tab} {K : Kn} {env env' : List (Nat × A)} {h : Heap}
theorem eff_congr {op : Op} (hc : ∀ x ∈ op.operands, ev env x = ev env' x) : eff T K env h op = eff T K env' h op := by
 cases op <;> simp only [Op.operands] at hc
 case call c =>
  obtain ⟨callee, args, at_⟩ := c
  have ha : ∀ x ∈ args, ev env x = ev env' x := fun x hx => hc x (by simp [Call.operands, hx])
  have hargs : args.toList.map (ev env) = args.toList.map (ev env') := List.map_congr_left fun x hx => ha x (by simpa using hx)
  cases callee with
  | value f =>
   have hf : ev env f = ev env' f := hc f (by simp [Call.operands])
   simp only [eff, callArgs, hargs, hf]
   try rfl
  | invoke r m => simp only [eff, aval1]
  | builtin b =>
   have ha2 : ∀ x ∈ args.toList, ev env x = ev env' x := fun x hx => ha x (by simpa using hx)
   cases b <;> simp only [eff, aval1, aappend, acopy] <;> generalize args.toList = al at ha2 <;> rcases al with _ | ⟨x, _ | ⟨y, _ | ⟨z, l⟩⟩⟩ <;> first
    | rfl
    | (have e1 := ha2 x (by simp); simp only [e1]; done)
    | (have e1 := ha2 x (by simp); simp only [e1]; rfl)
    | (have e1 := ha2 x (by simp); generalize at_.toList = tl; rcases tl with _ | ⟨t, _ | ⟨u, _ | ⟨z, l⟩⟩⟩ <;> first | rfl | (simp only [e1]; done) | (simp only [e1]; rfl))
    | (have e1 := ha2 x (by simp); have e2 := ha2 y (by simp); simp only [e1, e2]; done)
    | (have e1 := ha2 x (by simp); have e2 := ha2 y (by simp); simp only [e1, e2]; rfl)
    | (have e1 := ha2 x (by simp); have e2 := ha2 y (by simp); generalize at_.toList = tl; rcases tl with _ | ⟨t, _ | ⟨u, _ | ⟨z, l⟩⟩⟩ <;> first | rfl | (simp only [e1, e2]; done) | (simp only [e1, e2]; rfl))
 case build t ps =>
  have : ps.toList.map (fun p => (p.1, ev env p.2)) = ps.toList.map (fun p => (p.1, ev env' p.2)) := List.map_congr_left fun p hp => by rw [hc p.2 (by simp; exact ⟨p.1, by simpa using hp⟩)]
  simp only [eff, aval1, this]
 case buildSlice t n ps =>
  have : ps.toList.map (fun p => (p.1, ev env p.2)) = ps.toList.map (fun p => (p.1, ev env' p.2)) := List.map_congr_left fun p hp => by rw [hc p.2 (by simp; exact ⟨p.1, by simpa using hp⟩)]
  simp only [eff, anew, this]
 case makeFunc fn first caps =>
  have : caps.toList.map (ev env) = caps.toList.map (ev env') := List.map_congr_left fun x hx => hc x (by simp at hx; simp [hx])
  simp only [eff, aval1, this]
 case slice t x lo hi mx =>
  have e1 : lo.map (ev env) = lo.map (ev env') := by cases lo with | none => rfl | some y => simp [hc y (by simp)]
  have e2 : hi.map (ev env) = hi.map (ev env') := by cases hi with | none => rfl | some y => simp [hc y (by simp)]
  have e3 : ev env x = ev env' x := hc x (by simp)
  simp only [eff, aval1, e1, e2, e3]
 all_goals first
  | rfl
  | (simp only [eff, aval1, anew, astore]; simp_all; done)
  | (simp only [eff, aval1, anew, astore]; have := hc; simp at this; simp only [this]; done)
end congr
def rdr : Op → Bool
 | .alloc _ | .box _ _ | .buildSlice _ _ _ | .makeSlice _ _ _ | .store _ _ _ => false
 | .call c => match c.callee with
  | .builtin .append => false
  | .builtin .copy => false
  | .builtin _ => true
  | _ => false
 | _ => true
def mutOp : Op → Bool
 | .store _ _ _ => true
 | .call c => match c.callee with
  | .builtin .append => true
  | .builtin .copy => true
  | _ => false
 | _ => false
section
variable {T : Tab} {K : Kn} {env : List (Nat × A)} {h h' : Heap} {x : A} {op : Op}
theorem bsz_ext {m s : Nat} {e : Heap} (hs : bsz h m = some s) : bsz (h ++ e) m = some s := by
 unfold bsz at *
 split at hs
 ·rename_i b hb
  have := (List.getElem?_eq_some_iff.1 hb).1
  rw [List.getElem?_append_left this, hb]
  exact hs
 ·cases hs
theorem bes_ext {m r j n : Nat} {cs : List A} {e : Heap} (hs : rdCells (bes h m) r j n = some cs) : rdCells (bes (h ++ e) m) r j n = some cs := by
 have : bes (h ++ e) m = bes h m := by
  unfold bes at *
  split at hs
  ·rename_i b hb
   have := (List.getElem?_eq_some_iff.1 hb).1
   rw [List.getElem?_append_left this, hb]
  ·simp [rdCells] at hs
 rw [this]; exact hs
theorem aval1_ext (hv : aval1 T env h op = some x) (e : Heap) : aval1 T env (h ++ e) op = some x := by
 cases op <;> simp only [aval1, reduceCtorEq] at hv ⊢ <;> try exact hv
 case load t p =>
  split at hv
  ·exact hv
  ·rename_i i m r j hT hp
   split at hv
   ·rename_i cs hr
    rw [bes_ext hr]
    exact hv
   ·cases hv
  ·cases hv
 case indexAddr t y ix =>
  split at hv
  ·split at hv
   ·exact hv
   ·rename_i i m b len k n h1 h2 h3
    split at hv
    ·rename_i hc
     rw [if_pos ⟨bsz_ext hc.1, hc.2⟩]
     exact hv
    ·cases hv
   ·cases hv
  ·cases hv
 case slice t y lo hi mx =>
  split at hv
  ·unfold aslice at hv ⊢
   split at hv
   ·split at hv
    ·exact hv
    ·rename_i i m b len h1 h2
     split at hv
     ·rename_i hc
      rw [if_pos (bsz_ext hc)]
      exact hv
     ·cases hv
    ·cases hv
   ·cases hv
  ·cases hv
theorem rdr_eff (hr : rdr op = true) (he : eff T K env h op = some (x, h')) : h' = h ∧ ∀ e, eff T K env (h ++ e) op = some (x, h ++ e) := by
 have go : (aval1 T env h op).map (fun x => (x, h)) = some (x, h') → (∀ e, eff T K env (h ++ e) op = (aval1 T env (h ++ e) op).map (fun x => (x, h ++ e))) → h' = h ∧ ∀ e, eff T K env (h ++ e) op = some (x, h ++ e) := by
  intro h1 h2
  obtain ⟨y, hv, he⟩ := Option.map_eq_some_iff.1 h1
  simp only [Prod.mk.injEq] at he
  obtain ⟨rfl, rfl⟩ := he
  exact ⟨rfl, fun e => by rw [h2 e, aval1_ext hv]; rfl⟩
 cases op <;> simp only [rdr, reduceCtorEq] at hr
 case call c =>
  obtain ⟨callee, args, at_⟩ := c
  cases callee with
  | value f => simp at hr
  | invoke r m => simp at hr
  | builtin b => cases b <;> first | (simp at hr; done) | exact go he (fun e => rfl)
 all_goals exact go he (fun e => rfl)
def rdr0 : Op → Bool
 | .move _ | .assign _ | .pick _ _ _ | .binOp _ _ _ _ _ | .unOp _ _ _ | .convert _ _ _ | .nilCheck _ | .extract _ _ | .fieldAddr _ _ _ | .build _ _ | .makeFunc _ _ _ => true
 | _ => false
theorem rdr0_eff (hr : rdr0 op = true) (he : eff T K env h op = some (x, h')) : h' = h ∧ ∀ h2, eff T K env h2 op = some (x, h2) := by
 have go : (aval1 T env h op).map (fun x => (x, h)) = some (x, h') → (∀ h2, eff T K env h2 op = (aval1 T env h op).map (fun x => (x, h2))) → h' = h ∧ ∀ h2, eff T K env h2 op = some (x, h2) := by
  intro h1 h2
  obtain ⟨y, hv, he⟩ := Option.map_eq_some_iff.1 h1
  simp only [Prod.mk.injEq] at he
  obtain ⟨rfl, rfl⟩ := he
  exact ⟨rfl, fun e => by rw [h2 e, hv]; rfl⟩
 cases op <;> simp only [rdr0, reduceCtorEq] at hr <;> exact go he (fun e => rfl)
theorem hput_app (h : Heap) (b : Blk) : hput h h.length b = h ++ [some b] := by unfold hput; rw [if_neg (by omega)]
theorem ext_eff (hm : mutOp op = false) (he : eff T K env h op = some (x, h')) : ∃ e, h' = h ++ e := by
 by_cases hr : rdr op = true
 ·exact ⟨[], by rw [(rdr_eff hr he).1]; simp⟩
 cases op <;> simp only [rdr, mutOp, reduceCtorEq, not_true_eq_false, Bool.true_eq_false] at hr hm
 case call c =>
  obtain ⟨callee, args, at_⟩ := c
  cases callee with
  | value f =>
   simp only [eff] at he
   split at he
   ·split at he
    ·split at he
     ·simp only [Option.some.injEq, Prod.mk.injEq] at he
      exact ⟨_, he.2.symm⟩
     ·cases he
    ·cases he
   ·cases he
  | invoke r m => simp [eff, aval1] at he
  | builtin b => cases b <;> simp at hr hm
 all_goals
  simp only [eff] at he
  split at he
  ·simp only [Option.some.injEq, Prod.mk.injEq] at he; exact ⟨_, by rw [← he.2, hput_app]⟩
  ·simp only [Option.some.injEq, Prod.mk.injEq] at he; exact ⟨_, by rw [← he.2, hput_app]⟩
  ·cases he
end
def wantedA (all : Array Oper) (env : List (Nat × A)) (o : Oper) : Option Bool :=
 match o.guard with
 | none => some true
 | some (j, w) => match dstOf all j with
  | some d => match look env d with
   | .bool g => some (g == w)
   | .tup [] => some false
   | _ => none
  | none => none
def dstep (T : Tab) (K : Kn) (all : Array Oper) (st : St) (o : Oper) : Option St :=
 match wantedA all st.env o with
 | some true => match eff T K st.env st.heap o.op with
  | some (x, h) => (withH st h).putO o.dst x
  | none => none
 | some false => st.putO o.dst (.tup [])
 | none => none
def putE (env : List (Nat × A)) (d : Option Nat) (x : A) : List (Nat × A) :=
 match d with
 | some d => (d, x) :: env
 | none => env
theorem putO_iff {st st' : St} {d : Option Nat} {x : A} : st.putO d x = some st' ↔ (∀ e, d = some e → e < st.n) ∧ st' = { st with env := putE st.env d x } := by
 cases d with
 | none =>
  simp only [St.putO, putE, Option.some.injEq, reduceCtorEq, false_implies, implies_true, true_and]
  constructor <;> (rintro rfl; rfl)
 | some d =>
  simp only [St.putO, putE, St.put]
  split
  ·rename_i hd
   simp [eq_comm, hd]
  ·rename_i hd
   simp [hd]
theorem look_putE {env : List (Nat × A)} {d : Option Nat} {x : A} (i : Nat) : look (putE env d x) i = if d = some i then x else look env i := by
 cases d with
 | none => simp [putE]
 | some d =>
  simp only [putE, look, Option.some.injEq]
  by_cases hd : d = i
  ·subst hd; simp
  ·have : Nat.beq i d = false := by
    cases hb : Nat.beq i d
    ·rfl
    ·exact absurd (Nat.eq_of_beq_eq_true hb).symm hd
   simp [this, hd]
theorem ev_putE {env : List (Nat × A)} {d : Option Nat} {x : A} {y : Operand} (h : ∀ e, d = some e → y ≠ .tmp e) : ev (putE env d x) y = ev env y := by
 cases y with
 | tmp t =>
  simp only [ev, look_putE]
  rw [if_neg]
  intro e
  exact h t e rfl
 | const v => rfl
 | global g => rfl
 | func f => rfl
def Same (st st' : St) : Prop := st.heap = st'.heap ∧ st.n = st'.n ∧ ∀ i, look st.env i = look st'.env i
theorem Same.symm {st st' : St} (h : Same st st') : Same st' st := ⟨h.1.symm, h.2.1.symm, fun i => (h.2.2 i).symm⟩
theorem Same.ev {st st' : St} (h : Same st st') (x : Operand) : ev st.env x = ev st'.env x := by cases x <;> simp [Ab.ev, h.2.2]
section
variable {T : Tab} {K : Kn} {all : Array Oper} {o oi oj : Oper} {st st' s1 s2 : St}
theorem Same.putO {d : Option Nat} {x : A} (h : Same st st') (hp : st.putO d x = some s1) : ∃ s2, st'.putO d x = some s2 ∧ Same s1 s2 := by
 obtain ⟨h1, rfl⟩ := putO_iff.1 hp
 refine ⟨_, putO_iff.2 ⟨fun e he => by rw [← h.2.1]; exact h1 e he, rfl⟩, h.1, h.2.1, fun i => ?_⟩
 simp only [look_putE, h.2.2]
theorem wantedA_congr {env env' : List (Nat × A)} (h : ∀ g v d, o.guard = some (g, v) → dstOf all g = some d → look env d = look env' d) : wantedA all env o = wantedA all env' o := by
 unfold wantedA
 cases hg : o.guard with
 | none => rfl
 | some g =>
  obtain ⟨j, v⟩ := g
  cases hd : dstOf all j with
  | none => simp only [hd]
  | some d => simp only [hd, h j v d hg hd]
theorem dstep_same (h : Same st st') (hs : dstep T K all st o = some s1) : ∃ s2, dstep T K all st' o = some s2 ∧ Same s1 s2 := by
 unfold dstep at *
 rw [← wantedA_congr (fun g v d _ _ => h.2.2 d), ← eff_congr (fun x _ => h.ev x), ← h.1]
 split at hs
 ·split at hs
  ·rename_i x hh he
   exact Same.putO (st := withH st hh) (st' := withH st' hh) ⟨rfl, h.2.1, h.2.2⟩ hs
  ·cases hs
 ·exact Same.putO h hs
 ·cases hs
theorem not_looked {d : Nat} (h : d ∉ o.looksAt all) : (∀ x ∈ o.op.operands, x ≠ .tmp d) ∧ ∀ g v e, o.guard = some (g, v) → dstOf all g = some e → e ≠ d := by
 constructor
 ·rintro x hx rfl
  exact h (List.mem_append_left _ (List.mem_filterMap.2 ⟨.tmp d, by simpa using hx, rfl⟩))
 ·rintro g v e hg hd rfl
  exact h (List.mem_append_right _ (by unfold dstOf at hd; simp [hg, hd]))
theorem unlooked {env : List (Nat × A)} {d : Option Nat} {x : A} {h : Heap} (hn : ∀ e, d = some e → e ∉ o.looksAt all) :
  wantedA all (putE env d x) o = wantedA all env o ∧ eff T K (putE env d x) h o.op = eff T K env h o.op := by
 constructor
 ·refine wantedA_congr fun g v e hg hd => ?_
  rw [look_putE, if_neg]
  rintro rfl
  exact (not_looked (hn e rfl)).2 g v e hg hd rfl
 ·exact eff_congr fun y hy => ev_putE fun e he => (not_looked (hn e he)).1 y hy
theorem dstep_comm (hrm : (rdr oi.op = true ∧ mutOp oj.op = false) ∨ rdr0 oi.op = true) (hap : oi.apart all oj = true) (h1 : dstep T K all st oi = some s1) (h2 : dstep T K all s1 oj = some s2) :
  ∃ s' s2', dstep T K all st oj = some s' ∧ dstep T K all s' oi = some s2' ∧ Same s2 s2' := by
 obtain ⟨a1, a2, a3⟩ := Oper.apart_spec hap
 -- the first
 have first : ∃ x, s1 = { st with env := putE st.env oi.dst x } ∧ (∀ e, oi.dst = some e → e < st.n) ∧
   ∀ (s : St), s.n = st.n → ((∃ e, s.heap = st.heap ++ e) ∨ rdr0 oi.op = true) → (∀ (u : A), wantedA all (putE st.env oj.dst u) oi = wantedA all st.env oi) → ∀ u, s.env = putE st.env oj.dst u → dstep T K all s oi = some { s with env := putE s.env oi.dst x } := by
  unfold dstep at h1
  split at h1
  ·rename_i hw
   split at h1
   ·rename_i x hh he
    have hre : hh = st.heap ∧ ∀ h2, ((∃ e, h2 = st.heap ++ e) ∨ rdr0 oi.op = true) → eff T K st.env h2 oi.op = some (x, h2) := by
     by_cases h0 : rdr0 oi.op = true
     ·obtain ⟨q1, q2⟩ := rdr0_eff h0 he
      exact ⟨q1, fun h2 _ => q2 h2⟩
     ·obtain ⟨hr, _⟩ := hrm.resolve_right h0
      obtain ⟨q1, q2⟩ := rdr_eff hr he
      refine ⟨q1, fun h2 hh2 => ?_⟩
      obtain ⟨e, rfl⟩ := hh2.resolve_right h0
      exact q2 e
    obtain ⟨rfl, hext⟩ := hre
    obtain ⟨p1, rfl⟩ := putO_iff.1 h1
    refine ⟨x, rfl, p1, fun s hn hh hwa u hu => ?_⟩
    unfold dstep
    rw [hu, hwa u, hw]
    simp only
    rw [(unlooked (T := T) (K := K) (all := all) (h := s.heap) (env := st.env) (x := u) a3).2, hext s.heap hh]
    simp only
    rw [putO_iff.2 ⟨fun e he => by show e < s.n; rw [hn]; exact p1 e he, rfl⟩]
    simp [withH, hu]
   ·cases h1
  ·rename_i hw
   obtain ⟨p1, rfl⟩ := putO_iff.1 h1
   refine ⟨.tup [], rfl, p1, fun s hn hh hwa u hu => ?_⟩
   unfold dstep
   rw [hu, hwa u, hw]
   simp only
   rw [putO_iff.2 ⟨fun e he => by rw [hn]; exact p1 e he, rfl⟩]
   simp [hu]
  ·cases h1
 obtain ⟨x, rfl, p1, hi⟩ := first
 have hwi : ∀ u : A, wantedA all (putE st.env oj.dst u) oi = wantedA all st.env oi := fun u => (unlooked (T := T) (K := K) (h := []) a3).1
 have hj := unlooked (T := T) (K := K) (all := all) (o := oj) (env := st.env) (x := x) (h := st.heap) a1
 unfold dstep at h2
 simp only at h2
 rw [hj.1, hj.2] at h2
 have fin : ∀ (u : A) (hh : Heap), ((∃ e, hh = st.heap ++ e) ∨ rdr0 oi.op = true) → (∀ d, oj.dst = some d → d < st.n) → s2 = { st with heap := hh, env := putE (putE st.env oi.dst x) oj.dst u } → dstep T K all st oj = some { st with heap := hh, env := putE st.env oj.dst u } →
   ∃ s' s2', dstep T K all st oj = some s' ∧ dstep T K all s' oi = some s2' ∧ Same s2 s2' := by
  intro u hh he hlt hs2 hs
  refine ⟨_, _, hs, hi _ rfl (by simpa using he) hwi u rfl, ?_⟩
  subst hs2
  refine ⟨rfl, rfl, fun k => ?_⟩
  simp only [look_putE]
  by_cases hk1 : oj.dst = some k
  ·rw [if_pos hk1, if_neg (fun h => a2 k h hk1), if_pos hk1]
  ·by_cases hk2 : oi.dst = some k
   ·rw [if_neg hk1, if_pos hk2, if_pos hk2]
   ·rw [if_neg hk1, if_neg hk2, if_neg hk2, if_neg hk1]
 split at h2
 ·rename_i hw
  split at h2
  ·rename_i y hh he
   have hee : (∃ e, hh = st.heap ++ e) ∨ rdr0 oi.op = true := by
    rcases hrm with h | h
    ·exact .inl (ext_eff h.2 he)
    ·exact .inr h
   obtain ⟨q1, rfl⟩ := putO_iff.1 h2
   refine fin y _ hee q1 rfl ?_
   unfold dstep
   rw [hw, he]
   exact putO_iff.2 ⟨q1, rfl⟩
  ·cases h2
 ·rename_i hw
  obtain ⟨q1, rfl⟩ := putO_iff.1 h2
  refine fin (.tup []) _ (.inl ⟨[], by simp⟩) q1 rfl ?_
  unfold dstep
  rw [hw]
  exact putO_iff.2 ⟨q1, rfl⟩
 ·cases h2
end
end Go.Proofs.Ytimgfinlbhodhaa.Ab
namespace Go.Proofs.Ytimgfinlbhodhaa.Ab
open Go
set_option linter.unusedVariables false
set_option linter.unusedSimpArgs false
section
variable {T : Tab} {K : Kn} {all : Array Oper} {o oi oj : Oper} {st st' s1 s2 : St}
def AnyA (T : Tab) (K : Kn) (all : Array Oper) (E : St → Prop) : Nat → Array Bool → St → Prop
 | 0, listed, st => Region.ready .any all listed = [] ∧ E st
 | fuel + 1, listed, st => (Region.ready .any all listed = [] → E st) ∧
   ∀ i ∈ Region.ready .any all listed, ∃ o st', all[i]? = some o ∧ dstep T K all st o = some st' ∧ AnyA T K all E fuel (listed.setIfInBounds i true) st'
theorem AnyA.same {E : St → Prop} (hE : ∀ st st', Same st st' → E st → E st') : ∀ {fuel : Nat} {listed : Array Bool} {st st' : St}, Same st st' → AnyA T K all E fuel listed st → AnyA T K all E fuel listed st'
 | 0, _, _, _, h, H => ⟨H.1, hE _ _ h H.2⟩
 | fuel + 1, listed, st, st', h, H => ⟨fun h0 => hE _ _ h (H.1 h0), fun i hi => by
   obtain ⟨o, s1, h1, h2, h3⟩ := H.2 i hi
   obtain ⟨s2, h4, h5⟩ := dstep_same h h2
   exact ⟨o, s2, h1, h4, AnyA.same hE h5 h3⟩⟩
theorem AnyA.take {E : St → Prop} (hE : ∀ st st', Same st st' → E st → E st') {i : Nat} (hi : all[i]? = some oi) {D : List Nat}
  (hD : ∀ j oj, all[j]? = some oj → j ∈ D → ∃ e ∈ oj.after, Region.binds .any e = true ∧ (e.on = i ∨ e.on ∈ D)) :
  ∀ (fuel : Nat) (listed : Array Bool) (st s1 : St), (∀ j ∈ D, listed.getD j false = false) → listed.getD i false = false →
   (∀ j oj, all[j]? = some oj → j ≠ i → j ∉ D → listed.getD j true = false → ((rdr oi.op = true ∧ mutOp oj.op = false) ∨ rdr0 oi.op = true) ∧ oi.apart all oj = true) →
   i ∈ Region.ready .any all listed → dstep T K all st oi = some s1 → AnyA T K all E fuel (listed.setIfInBounds i true) s1 → AnyA T K all E (fuel + 1) listed st := by
 intro fuel
 induction fuel with
 | zero =>
  intro listed st s1 _ _ _ hr hs H
  refine ⟨fun h => (by rw [h] at hr; cases hr), fun j hj => ?_⟩
  by_cases hji : j = i
  ·subst hji; exact ⟨oi, s1, hi, hs, H⟩
  ·have := ready_mono hj hji
   rw [H.1] at this
   cases this
 | succ fuel ih =>
  intro listed st s1 hun hni hfree hr hs H
  refine ⟨fun h => (by rw [h] at hr; cases hr), fun j hj => ?_⟩
  by_cases hji : j = i
  ·subst hji; exact ⟨oi, s1, hi, hs, H⟩
  ·obtain ⟨hjun, oj', hoj', hall⟩ := mem_ready.1 hj
   have hjD : j ∉ D := fun hjD => by
    obtain ⟨e, he, hb, hor⟩ := hD j oj' hoj' hjD
    have := hall e he hb
    rcases hor with h | h
    ·rw [h, hni] at this; cases this
    ·rw [hun _ h] at this; cases this
   obtain ⟨oj, s2, hoj, h2, h3⟩ := H.2 j (ready_mono hj hji)
   obtain ⟨c1, c3⟩ := hfree j oj hoj hji hjD hjun
   obtain ⟨s', s2', d1, d2, d3⟩ := dstep_comm c1 c3 hs h2
   refine ⟨oj, s', hoj, d1, ih (listed.setIfInBounds j true) s' s2' ?_ ?_ ?_ (ready_mono hr (Ne.symm hji)) d2 ?_⟩
   ·intro k hk
    rw [getD_set_ne false (fun h => hjD (by rw [h]; exact hk))]
    exact hun k hk
   ·rw [getD_set_ne false hji]; exact hni
   ·intro k ok hk hki hkD hkun
    refine hfree k ok hk hki hkD ?_
    by_cases hjk : j = k
    ·subst hjk; exact hjun
    ·rw [getD_set_ne true hjk] at hkun; exact hkun
   ·rw [Array.setIfInBounds_comm _ _ hji]
    exact AnyA.same hE d3 h3
def depsOf (all : Array Oper) (i : Nat) : List Nat :=
 (List.range all.size).foldl (fun D j => match all[j]? with
  | some oj => if oj.after.any (fun e => Region.binds .any e && (e.on == i || D.contains e.on)) then j :: D else D
  | none => D) []
def takeOk (all : Array Oper) (listed : Array Bool) (i : Nat) (D : List Nat) : Bool :=
 (D.all fun j => !listed.getD j false && (match all[j]? with
  | some oj => oj.after.any fun e => Region.binds .any e && (e.on == i || D.contains e.on)
  | none => true)) && !listed.getD i false && (List.range all.size).all fun j => j == i || D.contains j || listed.getD j true || (match all[j]?, all[i]? with
   | some oj, some oi => ((rdr oi.op && !mutOp oj.op) || rdr0 oi.op) && oi.apart all oj
   | _, _ => true)
def drawOk (all : Array Oper) : List Nat → Array Bool → Bool
 | [], listed => (Region.ready .any all listed).isEmpty
 | i :: l, listed => (Region.ready .any all listed).contains i && takeOk all listed i (depsOf all i) && drawOk all l (listed.setIfInBounds i true)
theorem takeOk_spec {listed : Array Bool} {i : Nat} {D : List Nat} (h : takeOk all listed i D = true) (hi : all[i]? = some oi) :
  (∀ j oj, all[j]? = some oj → j ∈ D → ∃ e ∈ oj.after, Region.binds .any e = true ∧ (e.on = i ∨ e.on ∈ D)) ∧ (∀ j ∈ D, listed.getD j false = false) ∧ listed.getD i false = false ∧
   (∀ j oj, all[j]? = some oj → j ≠ i → j ∉ D → listed.getD j true = false → ((rdr oi.op = true ∧ mutOp oj.op = false) ∨ rdr0 oi.op = true) ∧ oi.apart all oj = true) := by
 simp only [takeOk, Bool.and_eq_true, List.all_eq_true] at h
 obtain ⟨⟨h1, h2⟩, h3⟩ := h
 refine ⟨fun j oj hj hjD => ?_, fun j hj => ?_, ?_, fun j oj hj hji hjD hun => ?_⟩
 ·have := (h1 j hjD).2
  rw [hj] at this
  simp only at this
  obtain ⟨e, he, hb⟩ := Array.any_eq_true'.1 this
  simp only [Bool.and_eq_true, Bool.or_eq_true, beq_iff_eq, List.contains_iff_mem] at hb
  exact ⟨e, he, hb.1, hb.2⟩
 ·simpa using (h1 j hj).1
 ·simpa using h2
 ·have hlt := (Array.getElem?_eq_some_iff.1 hj).1
  have := h3 j (by simpa using hlt)
  rw [hj, hi] at this
  simp only [Bool.or_eq_true, Bool.and_eq_true, beq_iff_eq, List.contains_iff_mem, hji, hjD, hun, false_or, Bool.false_eq_true, Bool.not_eq_true'] at this
  exact ⟨this.1, this.2⟩
end
section
variable {c : Cx} {k : List It} {st st' : St} {all : Array Oper} {o : Oper} {K : Kn}
theorem G.same (h : Same st st') (hk : G c k st) : G c k st' := by
 intro a w φ fs hs hb
 refine hk a w φ fs ⟨hs.defers, by rw [h.2.1]; exact hs.size, fun i => by rw [h.2.2 i]; exact hs.env i, by rw [h.1]; exact hs.heap, hs.nodup, hs.apart, hs.low⟩ hb
theorem tup_nil {w : World} {S : Nat → Prop} {φ : List (Option Loc)} {v : Value} (h : Rel w S φ (.tup []) v []) : v = undef := by
 generalize hf : ([] : List Nat) = f at h
 cases h with
 | tup hr => cases hr; rfl
theorem wantedA_run {S0 : Nat → Prop} {a : Act} {w : World} {φ : List (Option Loc)} {fs : List Nat} (h : SRel S0 st a w φ fs) {b : Bool} (hw : wantedA all st.env o = some b) : Region.wanted o (yielded all a.tmps) = b := by
 unfold wantedA at hw
 unfold Region.wanted
 split at hw
 ·rename_i hg; injection hw with hw; subst hw; rw [hg]
 ·rename_i j v hg
  rw [hg]
  simp only
  split at hw
  ·rename_i d hd
   have hr := h.env d
   have hs := h.size
   split at hw
   ·rename_i g hl
    injection hw with hw
    subst hw
    rw [hl] at hr
    have hlt : d < st.n := by
     rcases Nat.lt_or_ge d st.n with h | h
     ·exact h
     ·have : a.tmps.getD d undef = undef := by simp [Array.getD, hs, Nat.not_lt.2 h]
      rw [this] at hr
      cases hr
    rw [yielded_bool h hd hl hlt]
    cases g <;> cases v <;> rfl
   ·rename_i hl
    injection hw with hw
    subst hw
    rw [hl] at hr
    have := tup_nil hr
    have hy : yielded all a.tmps j = none := by
     unfold yielded
     unfold dstOf at hd
     rw [hd]
     simp only [Option.bind_some]
     cases ht : a.tmps[d]? with
     | none => rfl
     | some x =>
      have : x = undef := by
       have e := this
       simp only [Array.getD_eq_getD_getElem?, ht, Option.getD_some] at e
       exact e
      rw [this]
      rfl
    rw [hy]
    rfl
   ·cases hw
  ·cases hw
theorem dstep_run (hT : c.T.ok c.P) (hK : K.ok c.P) (hs : dstep c.T K all st o = some st') {a : Act} {w : World} {φ : List (Option Loc)} {fs : List Nat} (hr : SRel c.S0 st a w φ fs) (hb : Bnd c w φ fs)
  {Kc : Act → World → Prop} {Q : Exit → Act → World → Prop} (hk : ∀ a' w' φ' fs', SRel c.S0 st' a' w' φ' fs' → Bnd c w' φ' fs' → Kc a' w') :
  if Region.wanted o (yielded all a.tmps) then o.wp c.P a w Kc Q ∨ (o.asks c.P a w ∧ LetsOut Q) else Kc (a.put o.dst undef) w := by
 unfold dstep at hs
 split at hs
 ·rename_i hw
  rw [wantedA_run hr hw]
  simp only [if_true]
  split at hs
  ·rename_i x h he
   exact .inl (step2_does (all := all) hT hK (eff_step2 he hs) Kc Q a w φ fs hr hb (fun v w' φ' fs' h1 h2 => hk _ w' φ' fs' h1 h2))
  ·cases hs
 ·rename_i hw
  rw [wantedA_run hr hw]
  simp only [Bool.false_eq_true, if_false]
  exact hk _ w φ fs (hr.putO (v := undef) (.tup .nil) hs) hb
 ·cases hs
theorem AnyA.run (hT : c.T.ok c.P) (hK : K.ok c.P) : ∀ (fuel : Nat) {listed : Array Bool} {st : St}, AnyA c.T K all (G c k) fuel listed st →
  ∀ a w φ fs, SRel c.S0 st a w φ fs → Bnd c w φ fs → wpAny c.P .any all (cont c.P k c.Q) fuel listed a w
 | 0, _, _, H, a, w, φ, fs, hr, hb => ⟨H.1, H.2 a w φ fs hr hb⟩
 | fuel + 1, listed, st, H, a, w, φ, fs, hr, hb => ⟨fun h0 => H.1 h0 a w φ fs hr hb, fun i hi => by
   obtain ⟨o, s1, h1, h2, h3⟩ := H.2 i hi
   unfold wpOp
   simp only [h1]
   exact dstep_run hT hK h2 hr hb (fun a' w' φ' fs' h4 h5 => AnyA.run hT hK fuel h3 a' w' φ' fs' h4 h5)⟩
def Left (c : Cx) (K : Kn) (k : List It) (all : Array Oper) (l : List (Nat × Oper)) (st : St) : Prop :=
 ∀ listed, (∀ p ∈ l, all[p.1]? = some p.2) → drawOk all (l.map (·.1)) listed = true → AnyA c.T K all (G c k) l.length listed st
theorem Left.nil (h : G c k st) : Left c K k all [] st := fun listed _ hd => ⟨by simpa [drawOk] using hd, h⟩
theorem Left.step {i : Nat} {l : List (Nat × Oper)} (hs : dstep c.T K all st o = some st') (h : Left c K k all l st') : Left c K k all ((i, o) :: l) st := by
 intro listed hm hd
 simp only [List.map_cons, drawOk, Bool.and_eq_true] at hd
 have hi := hm (i, o) (by simp)
 obtain ⟨t1, t2, t3, t4⟩ := takeOk_spec hd.1.2 hi
 exact AnyA.take (fun _ _ => G.same) hi t1 _ _ _ _ t2 t3 t4 (by simpa using hd.1.1) hs (h _ (fun p hp => hm p (by simp [hp])) hd.2)
def runP (T : Tab) (K : Kn) (all : Array Oper) : Nat → St → List (Nat × Oper) → St × List (Nat × Oper)
 | 0, st, l => (st, l)
 | _ + 1, st, [] => (st, [])
 | n + 1, st, p :: l => match dstep T K all st p.2 with
  | some st' => runP T K all n st' l
  | none => (st, p :: l)
theorem Left.run (n : Nat) : ∀ {st st' : St} {l l' : List (Nat × Oper)}, runP c.T K all n st l = (st', l') → Left c K k all l' st' → Left c K k all l st := by
 induction n with
 | zero => intro st st' l l' h hk; simp only [runP, Prod.mk.injEq] at h; obtain ⟨rfl, rfl⟩ := h; exact hk
 | succ n ih =>
  intro st st' l l' h hk
  cases l with
  | nil => simp only [runP, Prod.mk.injEq] at h; obtain ⟨rfl, rfl⟩ := h; exact hk
  | cons p l =>
   simp only [runP] at h
   split at h
   ·rename_i s hs
    exact Left.step (i := p.1) hs (ih h hk)
   ·simp only [Prod.mk.injEq] at h; obtain ⟨rfl, rfl⟩ := h; exact hk
theorem G.draw (hm : c.P.follows .mixedOrders = true) (hT : c.T.ok c.P) (hK : K.ok c.P) {id : Nat} (l : List (Nat × Oper)) (hl : l.map (fun p => all[p.1]?) = l.map (fun p => some p.2)) (hn : l.length = all.size)
  (hd : drawOk all (l.map (·.1)) (Array.replicate all.size false) = true) (h : Left c K k all l st) : G c (.code (.region id all true) :: k) st := by
 intro a w φ fs hr hb
 refine wp_region_any hm ?_
 have hmem : ∀ p ∈ l, all[p.1]? = some p.2 := by
  intro p hp
  obtain ⟨n, hn, rfl⟩ := List.getElem_of_mem hp
  have := congrArg (·[n]?) hl
  simpa [hn] using this
 have := h _ hmem hd
 rw [hn] at this
 refine AnyA.run hT hK _ this a { w with drawn := w.drawn + 1 } φ fs ?_ ?_
 ·have hf : Fr (fun _ => False) w { w with drawn := w.drawn + 1 } := ⟨rfl, rfl, rfl, Nat.le_refl _, fun _ _ _ => rfl⟩
  exact ⟨hr.defers, hr.size, fun i => (hr.env i).frame hf (fun b hb => .inl hb) (fun _ h => h.elim) (Ext.refl _) (by simp), hr.heap.frame hf (fun b hb => .inl hb) (fun _ h => h.elim) (Ext.refl _) (fun _ _ h => h), hr.nodup, hr.apart, hr.low⟩
 ·exact ⟨hb.1.trans (T' := fun _ => False) ⟨rfl, rfl, rfl, Nat.le_refl _, fun _ _ _ => rfl⟩ (fun _ h => h.elim), hb.2.1, hb.2.2⟩
def runD (T : Tab) (K : Kn) (all : Array Oper) : Nat → St → List Oper → St × List Oper
 | 0, st, l => (st, l)
 | _ + 1, st, [] => (st, [])
 | n + 1, st, o :: l => match dstep T K all st o with
  | some st' => runD T K all n st' l
  | none => (st, o :: l)
theorem G.runD (hT : c.T.ok c.P) (hK : K.ok c.P) (n : Nat) : ∀ {st st' : St} {l l' : List Oper}, Ab.runD c.T K all n st l = (st', l') → G c (.ops all l' :: k) st' → G c (.ops all l :: k) st := by
 induction n with
 | zero => intro st st' l l' h hk; simp only [Ab.runD, Prod.mk.injEq] at h; obtain ⟨rfl, rfl⟩ := h; exact hk
 | succ n ih =>
  intro st st' l l' h hk
  cases l with
  | nil => simp only [Ab.runD, Prod.mk.injEq] at h; obtain ⟨rfl, rfl⟩ := h; exact hk
  | cons o l =>
   simp only [Ab.runD] at h
   split at h
   ·rename_i s hs
    intro a w φ fs hr hb
    show wpList c.P all (cont c.P k c.Q) (o :: l) a w
    simp only [wpList]
    exact dstep_run hT hK hs hr hb (fun a' w' φ' fs' h1 h2 => ih h hk a' w' φ' fs' h1 h2)
   ·simp only [Prod.mk.injEq] at h; obtain ⟨rfl, rfl⟩ := h; exact hk
end
end Go.Proofs.Ytimgfinlbhodhaa.Ab
namespace Go.Proofs.Ytimgfinlbhodhaa.Ab
open Go
theorem G.opV {c : Cx} {k : List It} {st st' : St} {all : Array Oper} {o : Oper} {l : List Oper} {x : A} (hg : o.guard = none) (hx : ∀ a w φ fs, SRel c.S0 st a w φ fs → ∃ v, (execOp a.eval o).run c.P w = .ok (.value v) w ∧ Rel w (Sof c.S0 fs) φ x v [])
  (hp : st.putO o.dst x = some st') (h : G c (.ops all l :: k) st') : G c (.ops all (o :: l) :: k) st := by
 intro a w φ fs hr hb
 obtain ⟨v, h1, h2⟩ := hx a w φ fs hr
 show wpList c.P all (cont c.P k c.Q) (o :: l) a w
 simp only [wpList]
 rw [if_pos (by simp [Region.wanted, hg])]
 refine .inl ?_
 unfold Oper.wp
 rw [h1]
 exact h (a.put o.dst v) w φ fs (hr.putO h2 hp) hb
set_option linter.unusedVariables false
set_option linter.unusedSimpArgs false
section
variable {c : Cx} {k : List It} {st st' : St}
open Classical in
theorem G.loopX {α : Type} {body : Code} (s : α → St) (ok : α → Prop) (μ : α → Nat) (x0 : α) (h0 : ok x0) (hst : st = s x0)
  (round : ∀ x, ok x → ∀ J : Act → World → Prop, (∀ y, ok y → μ y < μ x → G c (.upto J :: k) (s y)) → G c (.code body :: .upto J :: k) (s x)) : G c (.code (.loop body) :: k) st := by
 let Ex : St → Nat → Prop := fun t n => ∃ x, ok x ∧ s x = t ∧ μ x = n
 let m : St → Nat := fun t => if h : ∃ n, Ex t n then Classical.choose (exists_min h) else 0
 refine G.loop (fun t => ∃ n, Ex t n) m ⟨μ x0, x0, h0, hst.symm, rfl⟩ ?_
 intro t ht J hJ
 have hm : m t = Classical.choose (exists_min ht) := dif_pos ht
 obtain ⟨⟨x, hx, ex, e1⟩, _⟩ := Classical.choose_spec (exists_min ht)
 rw [← ex]
 refine round x hx J fun y hy hlt => hJ (s y) ⟨μ y, y, hy, rfl, rfl⟩ ?_
 have h2 : ∃ n, Ex (s y) n := ⟨μ y, y, hy, rfl, rfl⟩
 have hm2 : m (s y) = Classical.choose (exists_min h2) := dif_pos h2
 have hle := (Classical.choose_spec (exists_min h2)).2 (μ y) ⟨y, hy, rfl, rfl⟩
 rw [hm, hm2, ← e1]
 omega
def pureAt (h : Heap) : List Nat → Bool
 | [] => true
 | m :: r => (match h[m]? with
  | some (some b) => pureLL b.2
  | _ => true) && pureAt h r
theorem pureAt_spec {h : Heap} {sel : List Nat} (hp : pureAt h sel = true) : ∀ m ∈ sel, ∀ sz es, h[m]? = some (some (sz, es)) → pureLL es = true := by
 induction sel with
 | nil => intro m hm; simp at hm
 | cons x r ih =>
  simp only [pureAt, Bool.and_eq_true] at hp
  intro m hm sz es he
  rcases List.mem_cons.1 hm with rfl | hm
  ·have := hp.1; rw [he] at this; exact this
  ·exact ih hp.2 m hm sz es he
def inOrder (live sel : List Nat) (st : St) : St := ⟨live.map fun i => (i, ren sel (look st.env i)), pick st.heap sel, st.n⟩
theorem G.canonS (live sel : List Nat) (hs : sel.Nodup) (hφ : c.φ0 = []) (hp : pureAt st.heap sel = true) (hc : inOrder live sel st = st') (h : G c k st') : G c k st :=
 G.canon live sel hs hφ (pureAt_spec hp) (by rw [← hc] at h; exact h)
theorem G.upto {J : Act → World → Prop} {st'' : St} (h : G c (.upto J :: k) st'') (e : st = st'') : G c (.upto J :: k) st := by rw [e]; exact h
end
def iv (x : Int) : List A := [.int .i64 x]
theorem rd_map {α : Type} [Inhabited α] (f : α → List A) (l : List α) (i j n : Nat) : rdCells (l.map f) i j n = if i < l.length then (if (((f (l.getD i default)).drop j).take n).length = n ∧ n ≠ 0 then some (((f (l.getD i default)).drop j).take n) else none) else none := by
 unfold rdCells
 by_cases h : i < l.length
 ·simp [h, List.getD_eq_getElem?_getD]
 ·simp [h, List.getElem?_eq_none (Nat.not_lt.1 h)]
theorem rd_0 (e : List A) (es : List (List A)) (j n : Nat) : rdCells (e :: es) 0 j n = if ((e.drop j).take n).length = n ∧ n ≠ 0 then some ((e.drop j).take n) else none := rfl
theorem rd_s (e : List A) (es : List (List A)) (i j n : Nat) : rdCells (e :: es) (i + 1) j n = rdCells es i j n := rfl
theorem take_map_len {α : Type} (f : α → List A) (l : List α) : (l.map f).take l.length = l.map f := List.take_of_length_le (by simp)
theorem wrap64 {x : Int} (h1 : -9223372036854775808 ≤ x) (h2 : x ≤ 9223372036854775807) : IntKind.i64.wrap x = x := by
 simp [IntKind.wrap, IntKind.bits, IntKind.signed]
 omega
section
variable {α : Type}
theorem roLL_all {f : α → List A} (hf : ∀ x, roL (f x) = f x) (l : List α) : roLL (l.map f) = l.map f := by rw [roLL_map, List.map_map]; exact List.map_congr_left fun x _ => hf x
theorem pureLL_all {f : α → List A} (hf : ∀ x, pureL (f x) = true) (l : List α) : pureLL (l.map f) = true := by rw [pureLL_map, List.all_map, List.all_eq_true]; exact fun x _ => hf x
theorem noLoanLL_map (es : List (List A)) : noLoanLL es = es.all noLoanL := by
 induction es with
 | nil => rfl
 | cons a as ih => simp [noLoanLL, ih]
theorem noLoanLL_all {f : α → List A} (hf : ∀ x, noLoanL (f x) = true) (l : List α) : noLoanLL (l.map f) = true := by rw [noLoanLL_map, List.all_map, List.all_eq_true]; exact fun x _ => hf x
theorem pureLL_app (a b : List (List A)) : pureLL (a ++ b) = (pureLL a && pureLL b) := by simp [pureLL_map]
theorem pureLL_rep (n : Nat) (e : List A) : pureLL (List.replicate n e) = (Nat.beq n 0 || pureL e) := by
 cases n with
 | zero => rfl
 | succ n =>
  have : ∀ n, pureL e = true → pureLL (List.replicate n e) = true := fun n h => by rw [pureLL_map, List.all_eq_true]; intro x hx; rw [(List.mem_replicate.1 hx).2]; exact h
  cases h : pureL e with
  | true => simp [this _ h]
  | false =>
   have : Nat.beq (n + 1) 0 = false := rfl
   simp [List.replicate_succ, pureLL, h, this]
end
theorem roLL_iv (l : List Int) : roLL (l.map iv) = l.map iv := roLL_all (fun _ => rfl) l
theorem pureLL_iv (l : List Int) : pureLL (l.map iv) = true := pureLL_all (fun _ => rfl) l
theorem noLoanLL_iv (l : List Int) : noLoanLL (l.map iv) = true := noLoanLL_all (fun _ => rfl) l
theorem copyable_iv (l : List Int) : (l.map iv).all (fun y => y.all copyable) = true := by rw [List.all_map, List.all_eq_true]; exact fun x _ => rfl
section
variable {α : Type} (f : α → List A) {l : List α} (z : List A) {i : Nat}
end
open Classical in
noncomputable def kgr (R : List A → A → Prop) : List A → Option A := fun args => if h : ∃ r, R args r then some (Classical.choose h) else none
theorem kgr_eq {R : List A → A → Prop} (hf : ∀ args r r', R args r → R args r' → r = r') {args : List A} {r : A} (h : R args r) : kgr R args = some r := by
 unfold kgr
 have he : ∃ r, R args r := ⟨r, h⟩
 rw [dif_pos he]
 rw [hf args _ _ (Classical.choose_spec he) h]
theorem kgr_ok {P : Program} {f : FuncId} {R : List A → A → Prop} (he : Enters P f) (h : ∀ args r, R args r → AC P f args r) : KOk P (f, kgr R) := by
 refine ⟨he, fun args r hr => ?_⟩
 simp only [kgr] at hr
 split at hr
 ·rename_i hx
  injection hr with hr
  rw [← hr]
  exact h _ _ (Classical.choose_spec hx)
 ·cases hr
theorem map_inj {α : Type} {f : α → List A} (hf : ∀ x y, f x = f y → x = y) {l l' : List α} (h : l.map f = l'.map f) : l = l' := by
 induction l generalizing l' with
 | nil => cases l' with
  | nil => rfl
  | cons y l' => simp at h
 | cons x l ih =>
  cases l' with
  | nil => simp at h
  | cons y l' =>
   simp only [List.map_cons, List.cons.injEq] at h
   rw [hf x y h.1, ih h.2]
theorem iv_inj {l l' : List Int} : l.map iv = l'.map iv ↔ l = l' := ⟨map_inj (fun x y h => by simpa [iv] using h), fun h => by rw [h]⟩
abbrev I4 := Int × Int × Int × Int
def insv (x : I4) : List A := [.int .i64 x.1, .int .i64 x.2.1, .int .i64 x.2.2.1, .int .i64 x.2.2.2]
theorem insv_eq (x : I4) : insv x = [.int .i64 x.1, .int .i64 x.2.1, .int .i64 x.2.2.1, .int .i64 x.2.2.2] := rfl
theorem insv_inj {l l' : List I4} : l.map insv = l'.map insv ↔ l = l' := ⟨map_inj (fun x y h => by obtain ⟨a, b, c, d⟩ := x; obtain ⟨a', b', c', d'⟩ := y; simpa [insv] using h), fun h => by rw [h]⟩
theorem roLL_insv (l : List I4) : roLL (l.map insv) = l.map insv := roLL_all (fun _ => rfl) l
theorem pureLL_insv (l : List I4) : pureLL (l.map insv) = true := pureLL_all (fun _ => rfl) l
theorem noLoanLL_insv (l : List I4) : noLoanLL (l.map insv) = true := noLoanLL_all (fun _ => rfl) l
end Go.Proofs.Ytimgfinlbhodhaa.Ab
namespace Go.Proofs.Ytimgfinlbhodhaa.Ab
open Go
set_option linter.unusedVariables false
set_option linter.unusedSimpArgs false
def markOf (all : Array Oper) : List Nat → Array Bool
 | [] => Array.replicate all.size false
 | i :: ts => (markOf all ts).setIfInBounds i true
def AnyL (c : Cx) (K : Kn) (k : List It) (all : Array Oper) (ts : List Nat) (n : Nat) (st : St) : Prop := AnyA c.T K all (G c k) n (markOf all ts) st
def takeC (all : Array Oper) (ts : List Nat) (i : Nat) : Bool := (Region.ready .any all (markOf all ts)).contains i && takeOk all (markOf all ts) i (depsOf all i)
def takeL (all : Array Oper) : List Nat → List Nat → Bool
 | _, [] => true
 | ts, i :: l => takeC all ts i && takeL all (i :: ts) l
def takePk (ops : Array Oper) (ord : List Nat) : List (Nat × Oper) := ord.filterMap fun i => (ops[i]?).map fun o => (i, o)
theorem takePk_ok (ops : Array Oper) (ord : List Nat) : ∀ p ∈ takePk ops ord, ops[p.1]? = some p.2 := by
 intro p hp
 obtain ⟨i, _, hi⟩ := List.mem_filterMap.1 hp
 obtain ⟨o, ho, rfl⟩ := Option.map_eq_some_iff.1 hi
 exact ho
section
variable {c : Cx} {k : List It} {st st' s1 s2 : St} {all : Array Oper} {K : Kn} {ts : List Nat} {n : Nat}
theorem AnyL.take {i : Nat} {o : Oper} (hi : all[i]? = some o) (ht : takeC all ts i = true) (hs : dstep c.T K all st o = some st') (h : AnyL c K k all (i :: ts) n st') : AnyL c K k all ts (n + 1) st := by
 simp only [takeC, Bool.and_eq_true] at ht
 obtain ⟨t1, t2, t3, t4⟩ := takeOk_spec ht.2 hi
 exact AnyA.take (fun _ _ => G.same) hi t1 _ _ _ _ t2 t3 t4 (by simpa using ht.1) hs h
theorem AnyL.runP (l : List (Nat × Oper)) : ∀ {ts : List Nat} {st : St}, (∀ p ∈ l, all[p.1]? = some p.2) → takeL all ts (l.map (·.1)) = true → Ab.runP c.T K all l.length st l = (st', []) → AnyL c K k all ((l.map (·.1)).reverse ++ ts) n st' → AnyL c K k all ts (l.length + n) st := by
 induction l with
 | nil => intro ts st _ _ hr h; simp only [List.length_nil, Ab.runP, Prod.mk.injEq, and_true] at hr; subst hr; simpa using h
 | cons p l ih =>
  intro ts st hm ht hr h
  simp only [List.map_cons, takeL, Bool.and_eq_true] at ht
  simp only [List.length_cons, Ab.runP] at hr
  split at hr
  ·rename_i s hs
   have h2 := ih (ts := p.1 :: ts) (fun q hq => hm q (by simp [hq])) ht.2 hr (by simpa using h)
   have := AnyL.take (hm p (by simp)) ht.1 hs h2
   rw [show (p :: l).length + n = l.length + n + 1 by simp; omega]
   exact this
  ·simp only [Prod.mk.injEq] at hr; exact absurd hr.2 (by simp)
theorem AnyL.go (m : Nat) (ord : List Nat) (hl : (takePk all ord).length = m) (ho : (takePk all ord).map (·.1) = ord) (ht : takeL all ts ord = true) (hr : Ab.runP c.T K all m st (takePk all ord) = (st', [])) (h : AnyL c K k all (ord.reverse ++ ts) n st') : AnyL c K k all ts (m + n) st := by
 subst hl
 exact AnyL.runP _ (takePk_ok all ord) (by rw [ho]; exact ht) hr (by rw [ho]; exact h)
theorem AnyL.fork {i j : Nat} {oi oj : Oper} (hi : all[i]? = some oi) (hj : all[j]? = some oj) (hr : Region.ready .any all (markOf all ts) = [i, j]) (h1 : dstep c.T K all st oi = some s1) (h2 : dstep c.T K all st oj = some s2)
  (k1 : AnyL c K k all (i :: ts) n s1) (k2 : AnyL c K k all (j :: ts) n s2) : AnyL c K k all ts (n + 1) st := by
 refine ⟨fun h => absurd h (by rw [hr]; simp), fun x hx => ?_⟩
 rw [hr] at hx
 rcases List.mem_cons.1 hx with rfl | hx
 ·exact ⟨oi, s1, hi, h1, k1⟩
 ·rcases List.mem_cons.1 hx with rfl | hx
  ·exact ⟨oj, s2, hj, h2, k2⟩
  ·simp at hx
theorem AnyL.nil (hr : Region.ready .any all (markOf all ts) = []) (h : G c k st) : AnyL c K k all ts n st := by
 cases n with
 | zero => exact ⟨hr, h⟩
 | succ n => exact ⟨fun _ => h, fun x hx => by rw [hr] at hx; cases hx⟩
theorem G.drawL (hm : c.P.follows .mixedOrders = true) (hT : c.T.ok c.P) (hK : K.ok c.P) {id : Nat} (n : Nat) (h : AnyL c K k all [] n st) (hn : n = all.size) : G c (.code (.region id all true) :: k) st := by
 subst hn
 intro a w φ fs hr hb
 refine wp_region_any hm ?_
 refine AnyA.run hT hK _ h a { w with drawn := w.drawn + 1 } φ fs ?_ ?_
 ·have hf : Fr (fun _ => False) w { w with drawn := w.drawn + 1 } := ⟨rfl, rfl, rfl, Nat.le_refl _, fun _ _ _ => rfl⟩
  exact ⟨hr.defers, hr.size, fun i => (hr.env i).frame hf (fun b hb => .inl hb) (fun _ h => h.elim) (Ext.refl _) (by simp), hr.heap.frame hf (fun b hb => .inl hb) (fun _ h => h.elim) (Ext.refl _) (fun _ _ h => h), hr.nodup, hr.apart, hr.low⟩
 ·exact ⟨hb.1.trans (T' := fun _ => False) ⟨rfl, rfl, rfl, Nat.le_refl _, fun _ _ _ => rfl⟩ (fun _ h => h.elim), hb.2.1, hb.2.2⟩
theorem G.join {k' : List It} {P : Prop} (h1 : G c k st' → P) (h2 : G c k st') : P := h1 h2
end
mutual
def rnA (sel : List Nat) : A → A
 | .sl m lo len => match idx sel m with
  | some i => .sl i lo len
  | none => .any
 | .ptr m i j => match idx sel m with
  | some q => .ptr q i j
  | none => .any
 | .agg cs => .agg (rnL sel cs)
 | .tup cs => .tup (rnL sel cs)
 | .fn f cs => .fn f (rnL sel cs)
 | .row own sz es => if own then .row true sz (rnLL sel es) else .row false sz es
 | .box cs => .box (rnL sel cs)
 | .any => .any
 | .int k n => .int k n
 | .bool b => .bool b
 | .str s => .str s
 | .nils => .nils
 | .nilp => .nilp
 | .rp sz es i j => .rp sz es i j
def rnL (sel : List Nat) : List A → List A
 | [] => []
 | a :: as => rnA sel a :: rnL sel as
def rnLL (sel : List Nat) : List (List A) → List (List A)
 | [] => []
 | e :: es => rnL sel e :: rnLL sel es
end
theorem rnL_len (sel : List Nat) (as : List A) : (rnL sel as).length = as.length := by
 induction as with
 | nil => rfl
 | cons a as ih => simp [rnL, ih]
theorem rnLL_map (sel : List Nat) (es : List (List A)) : rnLL sel es = es.map (rnL sel) := by
 induction es with
 | nil => rfl
 | cons a as ih => simp [rnLL, ih]
theorem rnL_map (sel : List Nat) (es : List A) : rnL sel es = es.map (rnA sel) := by
 induction es with
 | nil => rfl
 | cons a as ih => simp [rnL, ih]
theorem rnLL_flat (sel : List Nat) (es : List (List A)) : (rnLL sel es).flatten = rnL sel es.flatten := by
 induction es with
 | nil => rfl
 | cons e es ih => simp [rnLL, ih, rnL_map]
mutual
theorem rnA_pure {sel : List Nat} {x : A} (h : pureA x = true) : rnA sel x = x := by
 cases x with
 | row own sz es =>
  cases own with
  | false => rfl
  | true => simp only [pureA, if_true] at h; simp only [rnA, if_true, rnLL_pure h]
 | agg cs => simp only [pureA] at h; simp only [rnA, rnL_pure h]
 | tup cs => simp only [pureA] at h; simp only [rnA, rnL_pure h]
 | fn f cs => simp only [pureA] at h; simp only [rnA, rnL_pure h]
 | box cs => simp only [pureA] at h; simp only [rnA, rnL_pure h]
 | sl m lo len => simp [pureA] at h
 | ptr m i j => simp [pureA] at h
 | _ => rfl
theorem rnL_pure {sel : List Nat} {xs : List A} (h : pureL xs = true) : rnL sel xs = xs := by
 cases xs with
 | nil => rfl
 | cons x xs => simp only [pureL, Bool.and_eq_true] at h; simp only [rnL, rnA_pure h.1, rnL_pure h.2]
theorem rnLL_pure {sel : List Nat} {es : List (List A)} (h : pureLL es = true) : rnLL sel es = es := by
 cases es with
 | nil => rfl
 | cons e es => simp only [pureLL, Bool.and_eq_true] at h; simp only [rnLL, rnL_pure h.1, rnLL_pure h.2]
end
section
variable {w : World} {S : Nat → Prop} {φ : List (Option Loc)}
mutual
theorem rnA_rel {sel : List Nat} {x : A} {v : Value} {f : List Nat} (h : Rel w S φ x v f) : Rel w S (pickφ φ sel) (rnA sel x) v f := by
 cases x with
 | sl m lo len =>
  simp only [rnA]
  cases h with
  | sl hm hlo hl ha =>
   split
   ·rename_i i hi; exact .sl (pick_at hi hm) hlo hl ha
   ·exact .any _
 | ptr m i j =>
  simp only [rnA]
  cases h with
  | ptr hm =>
   split
   ·rename_i q hi; exact .ptr (pick_at hi hm)
   ·exact .any _
 | agg cs => cases h with | agg hr => exact .agg (rnL_rel hr)
 | tup cs => cases h with | tup hr => exact .tup (rnL_rel hr)
 | fn f cs => cases h with | fn hr => exact .fn (rnL_rel hr)
 | row own sz es =>
  cases own with
  | true =>
   simp only [rnA, if_true]
   cases h with
   | own hh hz hu hr hc hl =>
    have hlen : (rnLL sel es).length = es.length := by rw [rnLL_map]; simp
    rw [← hlen] at hl ⊢
    exact .own hh hz (by rw [rnLL_map]; intro e he; obtain ⟨x, hx, rfl⟩ := List.mem_map.1 he; rw [rnL_len]; exact hu x hx) (by rw [rnLL_flat]; exact rnLF_rel hr) hc hl
   | own0 => exact .own0 _ _
  | false => cases h with
   | ro hu hr hc hl => exact .ro hu hr hc hl
   | ro0 => exact .ro0 _ _ _
 | box cs => cases h with | box hh hz hl hc hr => exact .box hh (by rw [rnL_len]; exact hz) hl hc (rnL_rel hr)
 | any => cases h; exact .any _
 | int k n => cases h; exact .int _ _
 | bool b => cases h; exact .bool _
 | str s => cases h; exact .str _
 | nils => cases h; exact .nils
 | nilp => cases h; exact .nilp
 | rp sz es i j => cases h with | rp hu hr hc => exact .rp hu hr hc
theorem rnL_rel {sel : List Nat} {xs : List A} {vs : List Value} {f : List Nat} (h : RelL w S φ xs vs f) : RelL w S (pickφ φ sel) (rnL sel xs) vs f := by
 cases xs with
 | nil => cases h; exact .nil
 | cons x xs => cases h with | cons h1 h2 => exact .cons (rnA_rel h1) (rnL_rel h2)
theorem rnLF_rel {sel : List Nat} {es : List (List A)} {vs : List Value} {f : List Nat} (h : RelL w S φ es.flatten vs f) : RelL w S (pickφ φ sel) (rnL sel es.flatten) vs f := by
 cases es with
 | nil => cases h; exact .nil
 | cons e es =>
  rw [List.flatten_cons] at h ⊢
  obtain ⟨u1, u2, g1, g2, rfl, rfl, r1, r2⟩ := h.split
  have e1 : rnL sel (e ++ es.flatten) = rnL sel e ++ rnL sel es.flatten := by simp [rnL_map]
  rw [e1]
  exact (rnL_rel r1).append (rnLF_rel r2)
end
def rnB (sel : List Nat) : Option Blk → Option Blk
 | some (sz, es) => some (sz, rnLL sel es)
 | none => none
def rnH (h : Heap) (sel : List Nat) : Heap := sel.map fun m => rnB sel ((h[m]?).getD none)
theorem rnB_rel {sel : List Nat} {b : Option Blk} {l : Option Loc} {f : List Nat} (h : BRel w S φ b l f) : BRel w S (pickφ φ sel) (rnB sel b) l f := by
 cases b with
 | none => exact h
 | some b =>
  obtain ⟨sz, es⟩ := b
  cases l with
  | none => exact h.elim
  | some l =>
   obtain ⟨hz, h | ⟨arr, ty, vs, f0, e, h1, h2, h3, h4, h5, h6⟩⟩ := h
   ·refine ⟨hz, .inl ⟨h.1, ?_, h.2.2⟩⟩
    rw [h.2.1]; rfl
   ·refine ⟨hz, .inr ⟨arr, ty, vs, f0, e, h1, h2, ?_, ?_, h5, ?_⟩⟩
    ·rw [rnLL_map]; intro e he; obtain ⟨x, hx, rfl⟩ := List.mem_map.1 he; rw [rnL_len]; exact h3 x hx
    ·rw [rnLL_flat]; exact rnLF_rel h4
    ·rw [rnLL_map]; simpa using h6
theorem rn_heap (all : List Nat) (sel : List Nat) : ∀ {h : Heap} {fs : List Nat}, HRel w S φ h φ fs → fs.Nodup → sel.Nodup →
  ∃ fr, HRel w S (pickφ φ all) (sel.map fun m => rnB all ((h[m]?).getD none)) (pickφ φ sel) fr ∧ fr.Nodup ∧ ∀ b ∈ fr, b ∈ fs := by
 induction sel with
 | nil => intro h fs H hn hs; exact ⟨[], .nil, by simp, by simp⟩
 | cons m sel ih =>
  intro h fs H hn hs
  have hs2 := List.nodup_cons.1 hs
  have non : (h[m]?).getD none = none → ∃ fr, HRel w S (pickφ φ all) ((m :: sel).map fun m => rnB all ((h[m]?).getD none)) (pickφ φ (m :: sel)) fr ∧ fr.Nodup ∧ ∀ b ∈ fr, b ∈ fs := by
   intro hm
   obtain ⟨fr, g1, g2, g3⟩ := ih H hn hs2.2
   refine ⟨[] ++ fr, ?_, by simpa using g2, by simpa using g3⟩
   simp only [pickφ, List.map_cons, hm]
   exact .cons rfl g1
  cases hm : h[m]? with
  | none => exact non (by rw [hm]; rfl)
  | some b =>
   cases b with
   | none => exact non (by rw [hm]; rfl)
   | some b =>
    obtain ⟨l, fr0, fb, q1, q2, q3, q4⟩ := H.kill hn hm
    have hnd := q4.nodup hn
    have hnd2 := List.nodup_append.1 hnd
    obtain ⟨fr, g1, g2, g3⟩ := ih q3 hnd2.1 hs2.2
    have heq : (sel.map fun x => rnB all (((h.set m none)[x]?).getD none)) = sel.map fun x => rnB all ((h[x]?).getD none) := by
     apply List.map_congr_left
     intro x hx
     have : m ≠ x := fun e => hs2.1 (by rw [e]; exact hx)
     rw [List.getElem?_set_ne this]
    rw [heq] at g1
    refine ⟨fb ++ fr, ?_, ?_, ?_⟩
    ·simp only [pickφ, List.map_cons, hm, q1, Option.getD_some]
     exact .cons (rnB_rel q2) g1
    ·exact List.nodup_append.2 ⟨hnd2.2.1, g2, fun a ha b hb e => by subst e; exact hnd2.2.2 a (g3 a hb) a ha rfl⟩
    ·intro b hb
     rw [q4.mem_iff]
     rcases List.mem_append.1 hb with hb | hb
     ·simp [hb]
     ·simp [g3 b hb]
end
mutual
def refsA : A → List Nat
 | .sl m _ _ => [m]
 | .ptr m _ _ => [m]
 | .agg cs => refsL cs
 | .tup cs => refsL cs
 | .fn _ cs => refsL cs
 | .row own _ es => if own then refsLL es else []
 | .box cs => refsL cs
 | .any => []
 | .int _ _ => []
 | .bool _ => []
 | .str _ => []
 | .nils => []
 | .nilp => []
 | .rp _ _ _ _ => []
def refsL : List A → List Nat
 | [] => []
 | a :: as => refsA a ++ refsL as
def refsLL : List (List A) → List Nat
 | [] => []
 | e :: es => refsL e ++ refsLL es
end
mutual
theorem refsA_pure {x : A} (h : pureA x = true) : refsA x = [] := by
 cases x with
 | row own sz es =>
  cases own with
  | false => rfl
  | true => simp only [pureA, if_true] at h; simp only [refsA, if_true, refsLL_pure h]
 | agg cs => simp only [pureA] at h; simp only [refsA, refsL_pure h]
 | tup cs => simp only [pureA] at h; simp only [refsA, refsL_pure h]
 | fn f cs => simp only [pureA] at h; simp only [refsA, refsL_pure h]
 | box cs => simp only [pureA] at h; simp only [refsA, refsL_pure h]
 | sl m lo len => simp [pureA] at h
 | ptr m i j => simp [pureA] at h
 | any => rfl
 | int k n => rfl
 | bool b => rfl
 | str s => rfl
 | nils => rfl
 | nilp => rfl
 | rp sz es i j => rfl
theorem refsL_pure {xs : List A} (h : pureL xs = true) : refsL xs = [] := by
 cases xs with
 | nil => rfl
 | cons x xs => simp only [pureL, Bool.and_eq_true] at h; simp only [refsL, refsA_pure h.1, refsL_pure h.2, List.append_nil]
theorem refsLL_pure {es : List (List A)} (h : pureLL es = true) : refsLL es = [] := by
 cases es with
 | nil => rfl
 | cons e es => simp only [pureLL, Bool.and_eq_true] at h; simp only [refsLL, refsL_pure h.1, refsLL_pure h.2, List.append_nil]
end
theorem refsLL_app (a b : List (List A)) : refsLL (a ++ b) = refsLL a ++ refsLL b := by
 induction a with
 | nil => rfl
 | cons x a ih => simp [refsLL, ih]
theorem rnLL_app (s : List Nat) (a b : List (List A)) : rnLL s (a ++ b) = rnLL s a ++ rnLL s b := by simp [rnLL_map]
def inN (x : Nat) : List Nat → Bool
 | [] => false
 | y :: l => Nat.beq x y || inN x l
def addN (s : List Nat) : List Nat → List Nat
 | [] => s
 | x :: l => if inN x s then addN s l else addN (s ++ [x]) l
def blkRefs (h : Heap) (m : Nat) : List Nat :=
 match h[m]? with
 | some (some b) => refsLL b.2
 | _ => []
def moreN (h : Heap) : List Nat → List Nat → List Nat
 | s, [] => s
 | s, m :: l => moreN h (addN s (blkRefs h m)) l
def envRefs (env : List (Nat × A)) : List Nat → List Nat
 | [] => []
 | i :: l => refsA (look env i) ++ envRefs env l
def selOf (live : List Nat) (st : St) : List Nat := moreN st.heap (moreN st.heap (addN [] (envRefs st.env live)) (addN [] (envRefs st.env live))) (moreN st.heap (addN [] (envRefs st.env live)) (addN [] (envRefs st.env live)))
section
variable {c : Cx} {k : List It} {st st' : St}
theorem G.perm (live sel : List Nat) (hs : sel.Nodup) (hφ : c.φ0 = []) (he : (⟨live.map fun i => (i, rnA sel (look st.env i)), rnH st.heap sel, st.n⟩ : St) = st') (h : G c k st') : G c k st := by
 subst he
 intro a w φ fs hr hb
 obtain ⟨fr, g1, g2, g3⟩ := rn_heap sel sel hr.heap hr.nodup hs
 refine h a w (pickφ φ sel) fr ⟨hr.defers, hr.size, fun i => ?_, g1.sub (fun b hb => hb.imp id (g3 b)), g2, fun b hb => hr.apart b (g3 b hb), hr.low⟩ ⟨hb.1, fun b hb2 => hb.2.1 b (g3 b hb2), by rw [hφ]; exact fun m l h => by simp at h⟩
 have : Rel w (Sof c.S0 fs) (pickφ φ sel) (look (live.map fun j => (j, rnA sel (look st.env j))) i) (a.tmps.getD i undef) [] := by
  rcases look_map (f := rnA sel) live st.env i with e | e
  ·rw [e]; exact .any _
  ·rw [e]; exact rnA_rel (hr.env i)
 exact this.frame (Fr.refl (fun _ => False) w) (fun b hb => .inl (hb.imp id (g3 b))) (fun _ h => h.elim) (Ext.refl _) (fun _ _ h => h)
theorem G.nilRow (i sz : Nat) (hi : look st.env i = .nils) (h : G c k (st.put i (.row true sz []))) : G c k st := by
 intro a w φ fs hr hb
 refine h a w φ fs ⟨hr.defers, hr.size, fun j => ?_, hr.heap, hr.nodup, hr.apart, hr.low⟩ hb
 by_cases hj : j = i
 ·subst hj
  have := hr.env j
  rw [hi] at this
  have e : look (st.put j (.row true sz [])).env j = .row true sz [] := by simp [St.put, look]
  rw [e]
  generalize a.tmps.getD j undef = v at this ⊢
  cases this
  exact .own0 _ _
 ·have hb2 : Nat.beq j i = false := by
   cases h : Nat.beq j i
   ·rfl
   ·exact absurd (Nat.eq_of_beq_eq_true h) hj
  have : look (st.put i (.row true sz [])).env j = look st.env j := by simp only [St.put, look, hb2]; rfl
  rw [this]
  exact hr.env j
theorem G.opNil {all : Array Oper} {o : Oper} {l : List Oper} {x y : Operand} {t t' e sz : Nat} {es : List (List A)} {s1 s2 : St} (hT : c.T.ok c.P) (hg : o.guard = none) (ho : o.op = .binOp .eql t x y t') (hk : (c.T t).map TI.kind = some (TK.slice e))
  (hx : ev st.env x = .row false sz es) (hy : ev st.env y = .nils) (hp1 : st.putO o.dst (.bool true) = some s1) (hp2 : st.putO o.dst (.bool false) = some s2) (h1 : es = [] → G c (.ops all l :: k) s1) (h2 : G c (.ops all l :: k) s2) : G c (.ops all (o :: l) :: k) st := by
 intro a w φ fs hr hb
 obtain ⟨it, hit, hkk, hft⟩ := kind_some hT hk
 have hu := under_slice hft hkk
 have rx := ev_rel hr x
 have ry := ev_rel hr y
 rw [hx] at rx
 rw [hy] at ry
 generalize hyv : a.eval y = yv at ry
 cases ry
 obtain ⟨ad, cap, hv, hcap, hf⟩ := row_form rx
 have hrun : (execOp a.eval o).run c.P w = .ok (.value (.bool ad.isNone)) w := by
  unfold execOp
  rw [ho]
  simp only [hv, hyv, Sem.run_bind]
  have hq : (eqGuard .eql t x y (.slice ad es.length cap) (.slice none 0 0)).run c.P w = .ok () w := rfl
  simp only [hq, Result.andThen_ok]
  have : (binOp .eql t (.slice ad es.length cap) (.slice none 0 0)).run c.P w = .ok (.bool ad.isNone) w := by
   simp [binOp, run_equal_slice_nil w t e ad es.length cap hu]
  rw [this]
  rfl
 show wpList c.P all (cont c.P k c.Q) (o :: l) a w
 simp only [wpList]
 rw [if_pos (by simp [Region.wanted, hg])]
 refine .inl ?_
 unfold Oper.wp
 rw [hrun]
 cases had : ad with
 | none =>
  have hes : es = [] := by
   cases es with
   | nil => rfl
   | cons e0 es0 => obtain ⟨x0, vs, h0, _⟩ := hf 0 (by simp); rw [had] at h0; cases h0
  exact h1 hes _ w φ fs (hr.putO (.bool true) hp1) hb
 | some x0 => exact h2 _ w φ fs (hr.putO (.bool false) hp2) hb
end
end Go.Proofs.Ytimgfinlbhodhaa.Ab
namespace Go.Proofs.Ytimgfinlbhodhaa.Ab
open Go
set_option linter.unusedVariables false
set_option linter.unusedSimpArgs false
mutual
/-- It leads to none of the places from n on. -/
def refA (n : Nat) : A → Bool
 | .sl m _ _ => decide (m < n)
 | .ptr m _ _ => decide (m < n)
 | .agg cs => refL n cs
 | .tup cs => refL n cs
 | .fn _ cs => refL n cs
 | .row own _ es => if own then refLL n es else true
 | .box cs => refL n cs
 | _ => true
def refL (n : Nat) : List A → Bool
 | [] => true
 | a :: as => refA n a && refL n as
def refLL (n : Nat) : List (List A) → Bool
 | [] => true
 | e :: es => refL n e && refLL n es
end
def hrefs (n : Nat) : Heap → Bool
 | [] => true
 | none :: h => hrefs n h
 | some b :: h => refLL n b.2 && hrefs n h
theorem refLL_map (n : Nat) (es : List (List A)) : refLL n es = es.all (refL n) := by
 induction es with
 | nil => rfl
 | cons a as ih => simp [refLL, ih]
mutual
theorem pure_ref {n : Nat} {x : A} (h : pureA x = true) : refA n x = true := by
 cases x with
 | row own sz es =>
  cases own with
  | false => rfl
  | true => simp only [pureA, refA, if_true] at *; exact pureLL_ref h
 | agg cs => simp only [pureA, refA] at *; exact pureL_ref h
 | tup cs => simp only [pureA, refA] at *; exact pureL_ref h
 | fn f cs => simp only [pureA, refA] at *; exact pureL_ref h
 | box cs => simp only [pureA, refA] at *; exact pureL_ref h
 | sl m lo len => simp [pureA] at h
 | ptr m i j => simp [pureA] at h
 | _ => rfl
theorem pureL_ref {n : Nat} {xs : List A} (h : pureL xs = true) : refL n xs = true := by
 cases xs with
 | nil => rfl
 | cons x xs => simp only [pureL, refL, Bool.and_eq_true] at *; exact ⟨pure_ref h.1, pureL_ref h.2⟩
theorem pureLL_ref {n : Nat} {es : List (List A)} (h : pureLL es = true) : refLL n es = true := by
 cases es with
 | nil => rfl
 | cons e es => simp only [pureLL, refLL, Bool.and_eq_true] at *; exact ⟨pureL_ref h.1, pureLL_ref h.2⟩
end
section
variable {w : World} {S : Nat → Prop}
mutual
theorem Rel.refs {φ : List (Option Loc)} {x : A} {v : Value} {f : List Nat} (h : Rel w S φ x v f) : refA φ.length x = true := by
 cases x with
 | row own sz es =>
  cases own with
  | false => rfl
  | true => cases h with
   | own hh hz hu hr hc hl => simp only [refA, if_true]; exact RelL.refsF hr
   | own0 => rfl
 | agg cs => cases h with | agg hr => exact RelL.refs hr
 | tup cs => cases h with | tup hr => exact RelL.refs hr
 | fn g cs => cases h with | fn hr => exact RelL.refs hr
 | box cs => cases h with | box hh hz hl hc hr => exact RelL.refs hr
 | sl m lo len => cases h with | sl hm hlo hl ha => simp only [refA, decide_eq_true_eq]; exact (List.getElem?_eq_some_iff.1 hm).1
 | ptr m i j => cases h with | ptr hm => simp only [refA, decide_eq_true_eq]; exact (List.getElem?_eq_some_iff.1 hm).1
 | _ => rfl
theorem RelL.refs {φ : List (Option Loc)} {xs : List A} {vs : List Value} {f : List Nat} (h : RelL w S φ xs vs f) : refL φ.length xs = true := by
 cases xs with
 | nil => rfl
 | cons x xs => cases h with | cons h hs => simp only [refL, Bool.and_eq_true]; exact ⟨Rel.refs h, RelL.refs hs⟩
theorem RelL.refsF {φ : List (Option Loc)} {es : List (List A)} {vs : List Value} {f : List Nat} (h : RelL w S φ es.flatten vs f) : refLL φ.length es = true := by
 cases es with
 | nil => rfl
 | cons e es =>
  rw [List.flatten_cons] at h
  obtain ⟨u1, u2, g1, g2, rfl, rfl, r1, r2⟩ := h.split
  simp only [refLL, Bool.and_eq_true]
  exact ⟨RelL.refs r1, RelL.refsF r2⟩
end
theorem HRel.refs {φ : List (Option Loc)} {h : Heap} {ls : List (Option Loc)} {f : List Nat} (H : HRel w S φ h ls f) : hrefs φ.length h = true := by
 induction H with
 | nil => rfl
 | cons hb hs ih =>
  rename_i b l f0 bs ls0 fs0
  cases b with
  | none => exact ih
  | some b =>
   obtain ⟨sz, es⟩ := b
   simp only [hrefs, Bool.and_eq_true]
   refine ⟨?_, ih⟩
   cases l with
   | none => exact hb.elim
   | some l =>
    obtain ⟨_, h | ⟨arr, ty, vs, f1, _, _, _, _, h4, _, _⟩⟩ := hb
    ·rw [h.2.1]; rfl
    ·exact h4.refsF
theorem take_at {φ : List (Option Loc)} {n m : Nat} {l : Loc} (hm : φ[m]? = some (some l)) (h : m < n) : (φ.take n)[m]? = some (some l) := by rw [List.getElem?_take_of_lt h]; exact hm
mutual
theorem Rel.cut {φ : List (Option Loc)} {n : Nat} {x : A} {v : Value} {f : List Nat} (hr : refA n x = true) (h : Rel w S φ x v f) : Rel w S (φ.take n) x v f := by
 cases x with
 | row own sz es =>
  cases own with
  | false => cases h with
   | ro hu hr hc hl => exact .ro hu hr hc hl
   | ro0 => exact .ro0 _ _ _
  | true =>
   simp only [refA, if_true] at hr
   cases h with
   | own hh hz hu hr2 hc hl => exact .own hh hz hu (RelL.cutF hr hr2) hc hl
   | own0 => exact .own0 _ _
 | agg cs => simp only [refA] at hr; cases h with | agg h => exact .agg (RelL.cut hr h)
 | tup cs => simp only [refA] at hr; cases h with | tup h => exact .tup (RelL.cut hr h)
 | fn g cs => simp only [refA] at hr; cases h with | fn h => exact .fn (RelL.cut hr h)
 | box cs => simp only [refA] at hr; cases h with | box hh hz hl hc h => exact .box hh hz hl hc (RelL.cut hr h)
 | sl m lo len => simp only [refA, decide_eq_true_eq] at hr; cases h with | sl hm hlo hl ha => exact .sl (take_at hm hr) hlo hl ha
 | ptr m i j => simp only [refA, decide_eq_true_eq] at hr; cases h with | ptr hm => exact .ptr (take_at hm hr)
 | any => cases h; exact .any _
 | int k n => cases h; exact .int _ _
 | bool b => cases h; exact .bool _
 | str s => cases h; exact .str _
 | nils => cases h; exact .nils
 | nilp => cases h; exact .nilp
 | rp sz es i j => cases h with | rp hu hr hc => exact .rp hu hr hc
theorem RelL.cut {φ : List (Option Loc)} {n : Nat} {xs : List A} {vs : List Value} {f : List Nat} (hr : refL n xs = true) (h : RelL w S φ xs vs f) : RelL w S (φ.take n) xs vs f := by
 cases xs with
 | nil => cases h; exact .nil
 | cons x xs => cases h with | cons h hs => simp only [refL, Bool.and_eq_true] at hr; exact .cons (Rel.cut hr.1 h) (RelL.cut hr.2 hs)
theorem RelL.cutF {φ : List (Option Loc)} {n : Nat} {es : List (List A)} {vs : List Value} {f : List Nat} (hr : refLL n es = true) (h : RelL w S φ es.flatten vs f) : RelL w S (φ.take n) es.flatten vs f := by
 cases es with
 | nil => cases h; exact .nil
 | cons e es =>
  simp only [refLL, Bool.and_eq_true] at hr
  rw [List.flatten_cons] at h ⊢
  obtain ⟨u1, u2, g1, g2, rfl, rfl, r1, r2⟩ := h.split
  exact (RelL.cut hr.1 r1).append (RelL.cutF hr.2 r2)
end
theorem HRel.cut {φ : List (Option Loc)} {n : Nat} {h : Heap} {ls : List (Option Loc)} {f : List Nat} (hr : hrefs n h = true) (H : HRel w S φ h ls f) : HRel w S (φ.take n) h ls f := by
 induction H with
 | nil => exact .nil
 | cons hb hs ih =>
  rename_i b l f0 bs ls0 fs0
  cases b with
  | none => exact .cons hb (ih hr)
  | some b =>
   obtain ⟨sz, es⟩ := b
   simp only [hrefs, Bool.and_eq_true] at hr
   refine .cons ?_ (ih hr.2)
   cases l with
   | none => exact hb.elim
   | some l =>
    obtain ⟨hz, h | ⟨arr, ty, vs, f1, e, h1, h2, h3, h4, h5, h6⟩⟩ := hb
    ·exact ⟨hz, .inl h⟩
    ·exact ⟨hz, .inr ⟨arr, ty, vs, f1, e, h1, h2, h3, h4.cutF hr.1, h5, h6⟩⟩
theorem HRel.part {φ : List (Option Loc)} {h1 h2 : Heap} {ls : List (Option Loc)} {f : List Nat} (H : HRel w S φ (h1 ++ h2) ls f) : ∃ l1 l2 f1 f2, ls = l1 ++ l2 ∧ f = f1 ++ f2 ∧ HRel w S φ h1 l1 f1 ∧ HRel w S φ h2 l2 f2 := by
 induction h1 generalizing ls f with
 | nil => exact ⟨[], ls, [], f, rfl, rfl, .nil, H⟩
 | cons b h1 ih =>
  cases H with
  | cons hb hs =>
   obtain ⟨l1, l2, f1, f2, e1, e2, g1, g2⟩ := ih hs
   exact ⟨_ :: l1, l2, _ ++ f1, f2, by rw [e1]; rfl, by rw [e2, List.append_assoc], .cons hb g1, g2⟩
end
def MCpost (w0 : World) (S0 : Nat → Prop) (fs0 : List Nat) (φ0 : List (Option Loc)) (res : A) (h' : Heap) (e : Ending) (w' : World) : Prop :=
 ∃ v φ' fs', e = .returned v ∧ Rel w' (Sof S0 fs') φ' res v [] ∧ HRel w' (Sof S0 fs') φ' h' φ' fs' ∧ fs'.Nodup ∧ (∀ b ∈ fs', b ∈ fs0 ∨ w0.heap.size ≤ b) ∧ Ext φ0 φ' ∧ Fr (fun b => b ∈ fs0) w0 w'
def MC (P : Program) (f : FuncId) (h : Heap) (args : List A) (res : A) (h' : Heap) : Prop :=
 ∀ (w : World) (S0 : Nat → Prop) (vs : List Value) (φ : List (Option Loc)) (fs : List Nat), (∀ b, S0 b → b < w.heap.size) → HRel w (Sof S0 fs) φ h φ fs → fs.Nodup → (∀ b ∈ fs, ¬ S0 b) → RelL w (Sof S0 fs) φ args vs [] →
  Calls P f vs.toArray w (MCpost w S0 fs φ res h')
section
variable {c : Cx} {k : List It} {st st' : St} {all : Array Oper} {o : Oper} {l : List Oper}
theorem G.doneM {P : Program} {T : Tab} {S0 : Nat → Prop} {w0 : World} {fs0 : List Nat} {φ0 : List (Option Loc)} {fn : Func} {rs : List ResultVar} {res : A} {xs : List A} {h' junk : Heap} (hT : T.ok P) (hrs : fn.results.toList = rs) (hx : resAll T st.env st.heap rs = some xs) (hr : oneOrTup xs = res)
  (hh : st.heap = h' ++ junk) (hp : refA h'.length res = true) (hq : hrefs h'.length h' = true) (hl : φ0.length ≤ h'.length) : G ⟨P, T, S0, w0, fs0, φ0, bodyPost P fn (MCpost w0 S0 fs0 φ0 res h')⟩ (.code .ret :: k) st := by
 refine G.ret fun a w φ fs hs hb => ?_
 obtain ⟨vs, h1, h2⟩ := results_run hT hs (by rw [hrs]; exact hx)
 have hH := hs.heap
 rw [hh] at hH
 obtain ⟨l1, l2, f1, f2, e1, e2, g1, g2⟩ := hH.part
 have hl1 : l1.length = h'.length := g1.length
 have hsub : ∀ b, Sof S0 f1 b → Sof S0 fs b ∨ w.heap.size ≤ b := fun b hb => .inl (hb.imp id (fun h => by rw [e2]; simp [h]))
 have htk : φ.take h'.length = l1 := by rw [e1, ← hl1]; simp
 refine ⟨hs.defers, _, h1, _, l1, f1, rfl, ?_, ?_, ?_, ?_, ?_, ?_⟩
 ·rw [← hr] at hp ⊢
  have := (oneOrTup_rel h2).cut hp
  rw [htk] at this
  exact this.frame (Fr.refl (fun _ => False) w) hsub (fun _ h => h.elim) (Ext.refl _) (fun _ _ h => h)
 ·have := g1.cut hq
  rw [htk] at this
  exact this.frame (Fr.refl (fun _ => False) w) hsub (fun _ h => h.elim) (Ext.refl _) (fun _ _ h => h)
 ·have := hs.nodup
  rw [e2] at this
  exact (List.nodup_append.1 this).1
 ·exact fun b hb0 => hb.2.1 b (by rw [e2]; simp [hb0])
 ·intro m l hm
  have h0 := hb.2.2 m l hm
  have hlt := (List.getElem?_eq_some_iff.1 hm).1
  rw [e1] at h0
  rw [List.getElem?_append_left (by omega)] at h0
  exact h0
 ·exact hb.1
theorem MC.of {P : Program} {T : Tab} {f : FuncId} {fn : Func} {code : Code} {args : List A} {res : A} {hp h' : Heap} (hT : T.ok P) (hf : P.funcs[f]? = some fn) (hb : fn.body = some code) (hn : args.length ≤ fn.ntmps)
  (h : ∀ w0 S0 fs0 φ0, φ0.length = hp.length → hrefs hp.length hp = true → G ⟨P, T, S0, w0, fs0, φ0, bodyPost P fn (MCpost w0 S0 fs0 φ0 res h')⟩ [.code code] ⟨(args.zipIdx 0).map fun x => (x.2, x.1), hp, fn.ntmps⟩) : MC P f hp args res h' := by
 intro w S0 vs φ fs hlow hH hnd hap hr
 refine calls_of_wp hf hb ?_
 have hl := hr.length
 have hq := hH.refs
 rw [hH.length] at hq
 refine h w S0 fs φ hH.length hq { tmps := vs.toArray ++ Array.replicate (fn.ntmps - vs.toArray.size) undef, defers := [] } w φ fs ⟨rfl, by simp; omega, fun i => ?_, hH, hnd, hap, hlow⟩ ⟨Fr.refl _ w, fun b hb => .inl hb, Ext.refl _⟩
 rw [look_zip]
 simp only [Nat.zero_le, if_true, Nat.sub_zero]
 by_cases hi : i < args.length
 ·obtain ⟨v, h1, h2⟩ := hr.none_at (k := i) (a := args[i]) (by simp [hi])
  have e1 : args.getD i .any = args[i] := by simp [hi]
  have e2 : (vs.toArray ++ Array.replicate (fn.ntmps - vs.toArray.size) undef).getD i undef = v := by
   have hlt : i < vs.length := by omega
   have hv : vs[i] = v := by rw [List.getElem?_eq_getElem hlt] at h1; injection h1
   simp [Array.getD, Array.getElem_append, hlt, hv]
   omega
  rw [e1, e2]
  exact h2
 ·have e1 : args.getD i .any = .any := by simp [List.getD_eq_getElem?_getD, List.getElem?_eq_none (Nat.not_lt.1 hi)]
  rw [e1]
  exact .any _
theorem set_take {α : Type} (e : List α) (j : Nat) (x : α) (h : j < e.length) : e.set j x = e.take j ++ ([x] ++ e.drop (j + 1)) := by
 rw [List.set_eq_take_append_cons_drop, if_pos h]; rfl
theorem G.focusX (m i j : Nat) {sz sz' : Nat} {es es' : List (List A)} {e : List A} {x : A} (hm : st.heap[m]? = some (some (sz, es))) (he : es[i]? = some e) (hj : e[j]? = some x) (hx0 : ∀ (w : World) (S : Nat → Prop) (φ : List (Option Loc)) (v : Value) (f : List Nat), Rel w S φ x v f → Rel w S φ (.row true sz' es') v f)
  (h : G c k (withH st ((st.heap.set m (some (sz, es.set i (e.set j (.sl st.heap.length 0 es'.length))))) ++ [some (sz', es')]))) : G c k st := by
 intro a w φ fs hr hb
 have hlen := hr.heap.length
 obtain ⟨lo, f1, fb, f2, q1, q2, q3, q4⟩ := hr.heap.at_ hm
 cases lo with
 | none => exact q2.elim
 | some l =>
  obtain ⟨hz, q2⟩ := q2
  rcases q2 with q2 | ⟨arr, ty, vs, f0, rfl, r1, r2, r3, r4, r5, r6⟩
  ·rw [q2.2.1] at he; simp at he
  ·have hel : e.length = sz := r3 _ (List.mem_of_getElem? he)
   have hjl : j < e.length := (List.getElem?_eq_some_iff.1 hj).1
   have hfg : es.flatten[i * sz + j]? = some x := by rw [flat_get r3 he (by omega)]; exact hj
   obtain ⟨g1, g2, g3, e1, w1, w2, w3⟩ := r4.window (i * sz + j) 1
   have hone : (es.flatten.drop (i * sz + j)).take 1 = [x] := by
    obtain ⟨hlt, hv⟩ := List.getElem?_eq_some_iff.1 hfg
    rw [List.drop_eq_getElem_cons hlt, hv]; rfl
   rw [hone] at w2
   obtain ⟨v, hv, hrel⟩ : ∃ v, (vs.drop (i * sz + j)).take 1 = [v] ∧ Rel w (Sof c.S0 fs) φ (.row true sz' es') v g2 := by
    generalize (vs.drop (i * sz + j)).take 1 = us at w2
    cases w2 with
    | cons h1 h2 => cases h2; exact ⟨_, rfl, by rw [List.append_nil]; exact hx0 _ _ _ _ _ h1⟩
   have new : ∃ l' : Loc, BRel w (Sof c.S0 fs) φ (some (sz', es')) (some l') g2 ∧ Rel w (Sof c.S0 fs) (φ ++ [some l']) (.sl φ.length 0 es'.length) v [] := by
    cases hrel with
    | own hh hz2 hu hr2 hc hl =>
     rename_i vs2 g off cap arr2 ty2 f2'
     refine ⟨⟨g, off, cap, sz'⟩, ⟨rfl, .inr ⟨arr2, ty2, vs2, f2', rfl, hh, hz2, hu, hr2, hc, hl⟩⟩, ?_⟩
     exact .sl (l := ⟨g, off, cap, sz'⟩) (c := cap) (by rw [List.getElem?_append_right (Nat.le_refl _)]; simp) (by simp) hl (fun _ => by simp)
    | own0 sz0 ad =>
     refine ⟨⟨0, 0, 0, sz'⟩, ⟨rfl, .inl ⟨rfl, rfl, rfl⟩⟩, ?_⟩
     exact .sl (l := ⟨0, 0, 0, sz'⟩) (c := 0) (by rw [List.getElem?_append_right (Nat.le_refl _)]; simp) (by simp) (Nat.le_refl _) (fun h => absurd h (by omega))
   obtain ⟨l', hb', hs'⟩ := new
   have hext : Ext φ (φ ++ [some l']) := Ext.app _ _
   have hfr := Fr.refl (fun _ => False) w
   have hid : ∀ b, Sof c.S0 fs b → Sof c.S0 fs b ∨ w.heap.size ≤ b := fun b hb => .inl hb
   have hno : ∀ b : Nat, False → Sof c.S0 fs b := fun _ h => h.elim
   have hnf : ∀ (x : List Nat), ∀ g ∈ x, ¬ False := fun _ _ _ h => h
   have hx : RelL w (Sof c.S0 fs) (φ ++ [some l']) [.sl φ.length 0 es'.length] [v] [] := .cons (f := []) (fs := []) hs' .nil
   have hflat : (es.set i (e.set j (.sl φ.length 0 es'.length))).flatten = es.flatten.take (i * sz + j) ++ ([.sl φ.length 0 es'.length] ++ (es.flatten.drop (i * sz + j)).drop 1) := by
    rw [set_take e j _ hjl]
    exact flat_cells (cs := [.sl φ.length 0 es'.length]) r3 he (by simp; omega)
   have hcell : vs.take (i * sz + j) ++ ([v] ++ (vs.drop (i * sz + j)).drop 1) = vs := by
    rw [← hv, List.take_append_drop, List.take_append_drop]
   have hblk : BRel w (Sof c.S0 fs) (φ ++ [some l']) (some (sz, es.set i (e.set j (.sl φ.length 0 es'.length)))) (some l) (l.g :: (g1 ++ ([] ++ g3))) := by
    refine ⟨hz, .inr ⟨arr, ty, vs, _, rfl, r1, r2, uni_set r3 (by simp [hel]), ?_, r5, by simpa using r6⟩⟩
    rw [hflat]
    have h1 := (w1.frame hfr hid hno hext (hnf _)).append (hx.append (w3.frame hfr hid hno hext (hnf _)))
    rwa [hcell] at h1
   have hH := q4 w (Sof c.S0 fs) (fun _ => False) (φ ++ [some l']) _ _ hfr hid hno hext (hnf _) (hnf _) hblk
   have hH2 := hH.snoc (hb'.frame hfr hid hno hext (hnf _))
   have hperm : fs.Perm (f1 ++ ((l.g :: (g1 ++ ([] ++ g3))) ++ f2) ++ g2) := by
    rw [q3, e1, List.append_assoc]
    refine List.Perm.append_left f1 ?_
    simp only [List.cons_append, List.nil_append, List.append_assoc]
    refine List.Perm.cons _ (List.Perm.append_left g1 ?_)
    refine (List.perm_append_comm_assoc g2 g3 f2).trans (List.Perm.append_left g3 List.perm_append_comm)
   rw [hlen] at hs' 
   have hst : SRel c.S0 (withH st ((st.heap.set m (some (sz, es.set i (e.set j (.sl st.heap.length 0 es'.length))))) ++ [some (sz', es')])) a w (φ ++ [some l']) (f1 ++ ((l.g :: (g1 ++ ([] ++ g3))) ++ f2) ++ g2) := by
    rw [hlen] at hH2
    exact hr.to hfr (fun _ h => h.elim) (fun b hb => .inl (hperm.mem_iff.2 hb)) hext (hperm.nodup hr.nodup) (hH2.sub (fun b hb => hb.imp id (fun h => hperm.mem_iff.2 h)))
   exact h a w _ _ hst ⟨hb.1, fun b hb2 => hb.2.1 b (hperm.mem_iff.2 hb2), fun x y hxy => hext x y (hb.2.2 x y hxy)⟩
theorem G.focus (m i j : Nat) {sz sz' : Nat} {es es' : List (List A)} {e : List A} (hm : st.heap[m]? = some (some (sz, es))) (he : es[i]? = some e) (hj : e[j]? = some (.row true sz' es'))
  (h : G c k (withH st ((st.heap.set m (some (sz, es.set i (e.set j (.sl st.heap.length 0 es'.length))))) ++ [some (sz', es')]))) : G c k st := G.focusX m i j hm he hj (fun _ _ _ _ _ h => h) h
theorem G.focusNil (m i j sz' : Nat) {sz : Nat} {es : List (List A)} {e : List A} (hm : st.heap[m]? = some (some (sz, es))) (he : es[i]? = some e) (hj : e[j]? = some .nils)
  (h : G c k (withH st ((st.heap.set m (some (sz, es.set i (e.set j (.sl st.heap.length 0 0))))) ++ [some (sz', [])]))) : G c k st := G.focusX (es' := []) m i j hm he hj (fun _ _ _ _ _ h => by cases h; exact .own0 _ _) h
theorem G.unfocus (m i j n : Nat) {sz sz' lo len : Nat} {es es' : List (List A)} {e : List A} (hm : st.heap[m]? = some (some (sz, es))) (he : es[i]? = some e) (hj : e[j]? = some (.sl n lo len)) (hn : st.heap[n]? = some (some (sz', es'))) (hne : m ≠ n)
  (hle : lo + len ≤ es'.length) (hpu : pureLL es' = true)
  (h : G c k (withH st ((st.heap.set n none).set m (some (sz, es.set i (e.set j (.row true sz' ((es'.drop lo).take len)))))))) : G c k st := by
 intro a w φ fs hr hb
 have hlen := hr.heap.length
 have hfold : foldA st.heap (.sl n lo len) = some (.row true sz' ((es'.drop lo).take len), st.heap.set n none) := by
  simp only [foldA, hn]
  rw [if_pos ⟨hle, hpu⟩]
 have hel0 : j < e.length := (List.getElem?_eq_some_iff.1 hj).1
 -- the cell, as it stands
 obtain ⟨lo1, f1, fb, f2, q1, q2, q3, q4⟩ := hr.heap.at_ hm
 cases lo1 with
 | none => exact q2.elim
 | some l =>
  obtain ⟨hz, q2⟩ := q2
  rcases q2 with q2 | ⟨arr, ty, vs, f0, rfl, r1, r2, r3, r4, r5, r6⟩
  ·rw [q2.2.1] at he; simp at he
  ·have hel : e.length = sz := r3 _ (List.mem_of_getElem? he)
   have hfg : es.flatten[i * sz + j]? = some (.sl n lo len) := by rw [flat_get r3 he (by omega)]; exact hj
   obtain ⟨v, p1, pf, p2, hv, hrel, hpe⟩ := r4.at_ hfg
   have hpf : pf = [] := by cases hrel; rfl
   subst hpf
   obtain ⟨fr, fx, t1, t2, t3⟩ := foldA_rel hr.heap (by simpa using hr.nodup) hrel hfold
   obtain ⟨lo2, F1, Fb, F2, s1, s2, s3, s4⟩ := t2.at_ (m := m) (b := some (sz, es)) (by rw [List.getElem?_set_ne (fun h => hne h.symm)]; exact hm)
   rw [q1] at s1
   injection s1 with s1
   subst s1
   obtain ⟨_, s2⟩ := s2
   rcases s2 with s2 | ⟨arr2, ty2, vs2, f02, rfl, u1, u2, u3, u4, u5, u6⟩
   ·rw [s2.2.1] at he; simp at he
   ·have ha : arr2 = arr := by rw [r1] at u1; injection u1 with u1; injection u1 with u1; exact u1.symm
    subst ha
    obtain ⟨g1, g2, g3, e1, w1, w2, w3⟩ := u4.window (i * sz + j) 1
    have hone : (es.flatten.drop (i * sz + j)).take 1 = [.sl n lo len] := by
     obtain ⟨hlt, hv⟩ := List.getElem?_eq_some_iff.1 hfg
     rw [List.drop_eq_getElem_cons hlt, hv]; rfl
    rw [hone] at w2
    obtain ⟨v2, hv2, hg2⟩ : ∃ v2, (vs2.drop (i * sz + j)).take 1 = [v2] ∧ g2 = [] := by
     generalize (vs2.drop (i * sz + j)).take 1 = us at w2
     cases w2 with
     | cons h1 h2 => cases h2; cases h1; exact ⟨_, rfl, rfl⟩
    subst hg2
    have hv2' : vs2[i * sz + j]? = some v2 := by
     have : ((vs2.drop (i * sz + j)).take 1)[0]? = some v2 := by rw [hv2]; rfl
     rw [List.getElem?_take_of_lt (by omega), List.getElem?_drop] at this
     simpa using this
    have hvv : v2 = v := by
     have h1 := r5 _ _ hv
     have h2 := u5 _ _ hv2'
     rw [h1] at h2
     injection h2 with h2
     exact h2.symm
    subst hvv
    have hx : RelL w (Sof c.S0 fs) φ [.row true sz' ((es'.drop lo).take len)] [v2] fx := by
     have := RelL.cons (as := []) (vs := []) (fs := []) (t1.up (φ := φ)) .nil
     simpa using this
    have hflat : (es.set i (e.set j (.row true sz' ((es'.drop lo).take len)))).flatten = es.flatten.take (i * sz + j) ++ ([.row true sz' ((es'.drop lo).take len)] ++ (es.flatten.drop (i * sz + j)).drop 1) := by
     rw [set_take e j _ hel0]
     exact flat_cells (cs := [.row true sz' ((es'.drop lo).take len)]) r3 he (by simp; omega)
    have hcell : vs2.take (i * sz + j) ++ ([v2] ++ (vs2.drop (i * sz + j)).drop 1) = vs2 := by
     rw [← hv2, List.take_append_drop, List.take_append_drop]
    have hfr := Fr.refl (fun _ => False) w
    have hid : ∀ b, Sof c.S0 fs b → Sof c.S0 fs b ∨ w.heap.size ≤ b := fun b hb => .inl hb
    have hno : ∀ b : Nat, False → Sof c.S0 fs b := fun _ h => h.elim
    have hnf : ∀ (x : List Nat), ∀ g ∈ x, ¬ False := fun _ _ _ h => h
    have hblk : BRel w (Sof c.S0 fs) φ (some (sz, es.set i (e.set j (.row true sz' ((es'.drop lo).take len))))) (some l) (l.g :: (g1 ++ (fx ++ g3))) := by
     refine ⟨hz, .inr ⟨arr2, ty2, vs2, _, rfl, u1, u2, uni_set r3 (by simp [hel]), ?_, u5, by simpa using r6⟩⟩
     rw [hflat]
     have h1 := w1.append (hx.append w3)
     rwa [hcell] at h1
    have hH := s4 w (Sof c.S0 fs) (fun _ => False) φ _ _ hfr hid hno (Ext.refl φ) (hnf _) (hnf _) hblk
    have hperm : (fr ++ fx).Perm (F1 ++ ((l.g :: (g1 ++ (fx ++ g3))) ++ F2)) := by
     rw [s3, e1, List.append_assoc]
     refine List.Perm.append_left F1 ?_
     simp only [List.cons_append, List.nil_append, List.append_assoc]
     refine List.Perm.cons _ (List.Perm.append_left g1 ?_)
     rw [← List.append_assoc g3 F2 fx]
     exact List.perm_append_comm
    have hsub : ∀ b, b ∈ F1 ++ ((l.g :: (g1 ++ (fx ++ g3))) ++ F2) → b ∈ fs := fun b hb => by simpa using t3.2 b (hperm.mem_iff.2 hb)
    have hst : SRel c.S0 (withH st ((st.heap.set n none).set m (some (sz, es.set i (e.set j (.row true sz' ((es'.drop lo).take len))))))) a w φ (F1 ++ ((l.g :: (g1 ++ (fx ++ g3))) ++ F2)) :=
     hr.to hfr (fun _ h => h.elim) (fun b hb => .inl (hsub b hb)) (Ext.refl φ) (hperm.nodup t3.1) (hH.sub (fun b hb => hb.imp id (hsub b)))
    exact h a w _ _ hst ⟨hb.1, fun b hb2 => hb.2.1 b (hsub b hb2), hb.2.2⟩
end
end Go.Proofs.Ytimgfinlbhodhaa.Ab
namespace Go.Proofs.Ytimgfinlbhodhaa.Ab
open Go
set_option linter.unusedVariables false
set_option linter.unusedSimpArgs false
section
variable {T : Tab} {K : Kn} {all : Array Oper} {o oi oj : Oper} {st st' s1 s2 : St}
theorem AnyA.takeI {E : St → Prop} (hE : ∀ st st', Same st st' → E st → E st') {i : Nat} (hi : all[i]? = some oi) {D : List Nat} (Inv : Array Bool → St → Prop)
  (hD : ∀ j oj, all[j]? = some oj → j ∈ D → ∃ e ∈ oj.after, Region.binds .any e = true ∧ (e.on = i ∨ e.on ∈ D))
  (hcomm : ∀ listed st s1 s2 j oj, Inv listed st → all[j]? = some oj → j ∈ Region.ready .any all listed → j ≠ i → j ∉ D → listed.getD j true = false → dstep T K all st oi = some s1 → dstep T K all s1 oj = some s2 →
   ∃ s' s2', dstep T K all st oj = some s' ∧ dstep T K all s' oi = some s2' ∧ Same s2 s2' ∧ Inv (listed.setIfInBounds j true) s') :
  ∀ (fuel : Nat) (listed : Array Bool) (st s1 : St), (∀ j ∈ D, listed.getD j false = false) → listed.getD i false = false → Inv listed st →
   i ∈ Region.ready .any all listed → dstep T K all st oi = some s1 → AnyA T K all E fuel (listed.setIfInBounds i true) s1 → AnyA T K all E (fuel + 1) listed st := by
 intro fuel
 induction fuel with
 | zero =>
  intro listed st s1 _ _ _ hr hs H
  refine ⟨fun h => (by rw [h] at hr; cases hr), fun j hj => ?_⟩
  by_cases hji : j = i
  ·subst hji; exact ⟨oi, s1, hi, hs, H⟩
  ·have := ready_mono hj hji
   rw [H.1] at this
   cases this
 | succ fuel ih =>
  intro listed st s1 hun hni hinv hr hs H
  refine ⟨fun h => (by rw [h] at hr; cases hr), fun j hj => ?_⟩
  by_cases hji : j = i
  ·subst hji; exact ⟨oi, s1, hi, hs, H⟩
  ·obtain ⟨hjun, oj', hoj', hall⟩ := mem_ready.1 hj
   have hjD : j ∉ D := fun hjD => by
    obtain ⟨e, he, hb, hor⟩ := hD j oj' hoj' hjD
    have := hall e he hb
    rcases hor with h | h
    ·rw [h, hni] at this; cases this
    ·rw [hun _ h] at this; cases this
   obtain ⟨oj, s2, hoj, h2, h3⟩ := H.2 j (ready_mono hj hji)
   obtain ⟨s', s2', d1, d2, d3, d4⟩ := hcomm listed st s1 s2 j oj hinv hoj hj hji hjD hjun hs h2
   refine ⟨oj, s', hoj, d1, ih (listed.setIfInBounds j true) s' s2' ?_ ?_ d4 (ready_mono hr (Ne.symm hji)) d2 ?_⟩
   ·intro k hk
    rw [getD_set_ne false (fun h => hjD (by rw [h]; exact hk))]
    exact hun k hk
   ·rw [getD_set_ne false hji]; exact hni
   ·rw [Array.setIfInBounds_comm _ _ hji]
    exact AnyA.same hE d3 h3
theorem eff_len {env : List (Nat × A)} {h h' : Heap} {op : Op} {x : A} (he : eff T K env h op = some (x, h')) : h.length ≤ h'.length := by
 by_cases hm : mutOp op = true
 ·cases op <;> simp only [mutOp, Bool.false_eq_true] at hm
  case store t p y =>
   simp only [eff] at he
   split at he
   ·simp only [Option.some.injEq, Prod.mk.injEq] at he; rw [← he.2]; simp
   ·cases he
  case call c =>
   obtain ⟨callee, args, at_⟩ := c
   cases callee with
   | value f => simp at hm
   | invoke r m => simp at hm
   | builtin b =>
    cases b <;> simp at hm
    ·simp only [eff] at he
     split at he
     ·rename_i bb kk _
      simp only [Option.some.injEq, Prod.mk.injEq] at he
      rw [← he.2]
      have hk : (hkill h kk).length = h.length := by cases kk <;> simp [hkill]
      unfold hput
      split
      ·simp [hk]
      ·simp [hk]
     ·cases he
    ·simp only [eff] at he
     split at he
     ·simp only [Option.some.injEq, Prod.mk.injEq] at he; rw [← he.2]; simp
     ·cases he
 ·obtain ⟨e, rfl⟩ := ext_eff (by simpa using hm) he
  simp
def freshOf (all : Array Oper) (listed : Array Bool) : List (Nat × Nat) :=
 (List.range all.size).filterMap fun a => match all[a]? with
  | some oa => match oa.op, oa.dst with
   | .alloc _, some d => if oa.guard == none && !listed.getD a true && (List.range all.size).all (fun b => b == a || dstOf all b != some d) then some (a, d) else none
   | _, _ => none
  | none => none
def bindsOn (all : Array Oper) (j a : Nat) : Bool := match all[j]? with
 | some oj => oj.after.any fun e => Region.binds .any e && e.on == a
 | none => false
def freshStore (all : Array Oper) (fr : List (Nat × Nat)) (j : Nat) : Bool := match all[j]? with
 | some oj => match oj.op with
  | .store _ (.tmp d) _ => fr.any fun p => p.2 == d && bindsOn all j p.1
  | _ => false
 | none => false
def loadC (all : Array Oper) (ts : List Nat) (i p : Nat) : Bool :=
 let listed := markOf all ts
 let D := depsOf all i
 let fr := freshOf all listed
 (Region.ready .any all listed).contains i && !listed.getD i false && (D.all fun j => !listed.getD j false && (match all[j]? with
  | some oj => oj.after.any fun e => Region.binds .any e && (e.on == i || D.contains e.on)
  | none => true)) && (match all[i]? with
  | some oi => oi.guard == none && (match oi.op with
   | .load _ (.tmp q) => q == p
   | _ => false)
  | none => false) && (List.range all.size).all fun j => j == i || D.contains j || listed.getD j true || (match all[j]?, all[i]? with
   | some oj, some oi => oi.apart all oj && (!mutOp oj.op || freshStore all fr j)
   | _, _ => true)
structure LInv (all : Array Oper) (l0 : Array Bool) (fr : List (Nat × Nat)) (p mi ii jj : Nat) (listed : Array Bool) (st : St) : Prop where
 at_ : look st.env p = .ptr mi ii jj
 lt : mi < st.heap.length
 sup : ∀ j, l0.getD j true = true → listed.getD j true = true
 made : ∀ a d, (a, d) ∈ fr → listed.getD a false = true → ∃ m r c, look st.env d = .ptr m r c ∧ m ≠ mi
theorem freshOf_spec {listed : Array Bool} {a d : Nat} (h : (a, d) ∈ freshOf all listed) : ∃ oa t, all[a]? = some oa ∧ oa.op = .alloc t ∧ oa.dst = some d ∧ listed.getD a true = false ∧ oa.guard = none ∧ ∀ b ob, all[b]? = some ob → b ≠ a → ob.dst ≠ some d := by
 unfold freshOf at h
 obtain ⟨a', _, h2⟩ := List.mem_filterMap.1 h
 split at h2
 ·rename_i oa hoa
  split at h2
  ·rename_i t d' h3 h4
   split at h2
   ·rename_i hc
    simp only [Option.some.injEq, Prod.mk.injEq] at h2
    obtain ⟨rfl, rfl⟩ := h2
    simp only [Bool.and_eq_true, Bool.not_eq_true', List.all_eq_true] at hc
    refine ⟨oa, t, hoa, h3, h4, hc.1.2, by simpa using hc.1.1, fun b ob hb hne hd => ?_⟩
    have hlt := (Array.getElem?_eq_some_iff.1 hb).1
    have := hc.2 b (by simpa using hlt)
    simp only [Bool.or_eq_true, beq_iff_eq, bne_iff_ne, ne_eq] at this
    rcases this with e | e
    ·exact hne e
    ·exact e (by unfold dstOf; rw [hb]; exact hd)
   ·cases h2
  ·cases h2
 ·cases h2
theorem load_ptr_eff {env : List (Nat × A)} {h : Heap} {t p mi ii jj : Nat} {x : A} {h' : Heap} (hp : look env p = .ptr mi ii jj) (he : eff T K env h (.load t (.tmp p)) = some (x, h')) :
  h' = h ∧ ∀ env2 h2, look env2 p = .ptr mi ii jj → bes h2 mi = bes h mi → eff T K env2 h2 (.load t (.tmp p)) = some (x, h2) := by
 simp only [eff, aval1, ev, hp] at he
 obtain ⟨y, hy, he⟩ := Option.map_eq_some_iff.1 he
 simp only [Prod.mk.injEq] at he
 obtain ⟨rfl, rfl⟩ := he
 refine ⟨rfl, fun env2 h2 hp2 hb => ?_⟩
 simp only [eff, aval1, ev, hp2]
 refine Option.map_eq_some_iff.2 ⟨y, ?_, rfl⟩
 cases hT : T t with
 | none => rw [hT] at hy; cases hy
 | some i => rw [hT] at hy; simp only at hy ⊢; rw [hb]; exact hy
theorem bes_set {h : Heap} {m mi : Nat} {b : Option Blk} (hne : m ≠ mi) : bes (h.set m b) mi = bes h mi := by
 unfold bes; rw [List.getElem?_set_ne hne]
theorem bes_appL {h e : Heap} {mi : Nat} (hl : mi < h.length) : bes (h ++ e) mi = bes h mi := by
 unfold bes; rw [List.getElem?_append_left hl]
theorem wanted_true {env : List (Nat × A)} (hg : o.guard = none) : wantedA all env o = some true := by unfold wantedA; rw [hg]
theorem dstep_eq (hs : dstep T K all st o = some s1) : (∃ x h, eff T K st.env st.heap o.op = some (x, h) ∧ wantedA all st.env o = some true ∧ s1 = { st with heap := h, env := putE st.env o.dst x } ∧ ∀ e, o.dst = some e → e < st.n) ∨
  (wantedA all st.env o = some false ∧ s1 = { st with env := putE st.env o.dst (.tup []) } ∧ ∀ e, o.dst = some e → e < st.n) := by
 unfold dstep at hs
 split at hs
 ·rename_i hw
  split at hs
  ·rename_i x h he
   obtain ⟨h1, h2⟩ := putO_iff.1 hs
   exact .inl ⟨x, h, he, hw, h2, h1⟩
  ·cases hs
 ·rename_i hw
  obtain ⟨h1, h2⟩ := putO_iff.1 hs
  exact .inr ⟨hw, h2, h1⟩
 ·cases hs
theorem AnyL.takeLoad {c : Cx} {k : List It} {ts : List Nat} {n i p mi ii jj : Nat} {all : Array Oper} {o : Oper} {K : Kn} {st st' : St} (hi : all[i]? = some o) (hc : loadC all ts i p = true) (hp : look st.env p = .ptr mi ii jj) (hl : mi < st.heap.length)
  (hs : dstep c.T K all st o = some st') (h : AnyL c K k all (i :: ts) n st') : AnyL c K k all ts (n + 1) st := by
 simp only [loadC, Bool.and_eq_true, List.all_eq_true] at hc
 obtain ⟨⟨⟨⟨c1, c2⟩, c3⟩, c4⟩, c5⟩ := hc
 rw [hi] at c4
 simp only [Bool.and_eq_true, beq_iff_eq] at c4
 obtain ⟨hg, c4⟩ := c4
 obtain ⟨t, hop⟩ : ∃ t, o.op = .load t (.tmp p) := by
  split at c4
  ·rename_i t q hq; rw [beq_iff_eq] at c4; subst c4; exact ⟨t, hq⟩
  ·cases c4
 refine AnyA.takeI (D := depsOf all i) (fun _ _ => G.same) hi (LInv all (markOf all ts) (freshOf all (markOf all ts)) p mi ii jj) (fun j oj hj hjD => ?_) ?_ n (markOf all ts) st st' (fun j hj => ?_) (by simpa using c2) ⟨hp, hl, fun _ h => h, fun a d had hla => ?_⟩ (by simpa using c1) hs h
 ·have := (c3 j hjD).2
  rw [hj] at this
  simp only at this
  obtain ⟨e, he, hb⟩ := Array.any_eq_true'.1 this
  simp only [Bool.and_eq_true, Bool.or_eq_true, beq_iff_eq, List.contains_iff_mem] at hb
  exact ⟨e, he, hb.1, hb.2⟩
 ·intro listed st s1 s2 j oj hinv hj hready hji hjD hjun h1 h2
  have hlt := (Array.getElem?_eq_some_iff.1 hj).1
  -- what is told of j
  by_cases hjl : (markOf all ts).getD j true = false
  ·have := c5 j (by simpa using hlt)
   rw [hj, hi] at this
   simp only [Bool.or_eq_true, Bool.and_eq_true, beq_iff_eq, List.contains_iff_mem, hji, hjD, hjl, false_or, Bool.false_eq_true, Bool.not_eq_true'] at this
   obtain ⟨hap, hmf⟩ := this
   obtain ⟨a1, a2, a3⟩ := Oper.apart_spec hap
   -- the load
   have hw : wantedA all st.env o = some true := wanted_true hg
   rcases dstep_eq h1 with ⟨x, hh, he, _, rfl, hd1⟩ | ⟨hw2, _, _⟩
   case inr => rw [hw] at hw2; cases hw2
   rw [hop] at he
   obtain ⟨rfl, hld⟩ := load_ptr_eff hinv.at_ he
   -- the other one
   have hj0 := unlooked (T := c.T) (K := K) (all := all) (o := oj) (env := st.env) (x := x) (h := st.heap) a1
   have hpj : ∀ u : A, look (putE st.env oj.dst u) p = .ptr mi ii jj := fun u => by
    rw [look_putE, if_neg]
    ·exact hinv.at_
    ·intro e
     refine a3 p e ?_
     unfold Oper.looksAt
     rw [hop]
     simp [Op.operands]
   have fin : ∀ (u : A) (h2' : Heap), bes h2' mi = bes st.heap mi → mi < h2'.length → (∀ d, oj.dst = some d → d < st.n) → s2 = { st with heap := h2', env := putE (putE st.env o.dst x) oj.dst u } →
     dstep c.T K all st oj = some { st with heap := h2', env := putE st.env oj.dst u } → LInv all (markOf all ts) (freshOf all (markOf all ts)) p mi ii jj (listed.setIfInBounds j true) { st with heap := h2', env := putE st.env oj.dst u } →
     ∃ s' s2', dstep c.T K all st oj = some s' ∧ dstep c.T K all s' o = some s2' ∧ Same s2 s2' ∧ LInv all (markOf all ts) (freshOf all (markOf all ts)) p mi ii jj (listed.setIfInBounds j true) s' := by
    intro u h2' hb hlt2 hdj hs2 hsj hI
    refine ⟨_, { st with heap := h2', env := putE (putE st.env oj.dst u) o.dst x }, hsj, ?_, ?_, hI⟩
    ·unfold dstep
     rw [wanted_true hg, hop, hld _ _ (hpj u) hb]
     exact putO_iff.2 ⟨hd1, rfl⟩
    ·subst hs2
     refine ⟨rfl, rfl, fun k => ?_⟩
     simp only [look_putE]
     by_cases hk1 : oj.dst = some k
     ·rw [if_pos hk1, if_neg (fun h => a2 k h hk1), if_pos hk1]
     ·by_cases hk2 : o.dst = some k
      ·rw [if_neg hk1, if_pos hk2, if_pos hk2]
      ·rw [if_neg hk1, if_neg hk2, if_neg hk2, if_neg hk1]
   have keep : ∀ (u : A) (h2' : Heap), mi < h2'.length → (∀ a d, (a, d) ∈ freshOf all (markOf all ts) → a = j → ∃ m r c', u = .ptr m r c' ∧ m ≠ mi) → LInv all (markOf all ts) (freshOf all (markOf all ts)) p mi ii jj (listed.setIfInBounds j true) { st with heap := h2', env := putE st.env oj.dst u } := by
    intro u h2' hl2 hnew
    refine ⟨hpj u, hl2, fun j2 hj2 => ?_, fun a d had hla => ?_⟩
    ·by_cases hjj : j = j2
     ·subst hjj
      simp only [Array.getD_eq_getD_getElem?, Array.getElem?_setIfInBounds_self]
      split <;> rfl
     ·rw [getD_set_ne true hjj]; exact hinv.sup j2 hj2
    obtain ⟨oa, ta, f1, f2, f3, f4, f6, f5⟩ := freshOf_spec had
    by_cases haj : a = j
    ·subst haj
     rw [hj] at f1
     injection f1 with f1
     subst f1
     obtain ⟨m, r, c', e1, e2⟩ := hnew a d had rfl
     exact ⟨m, r, c', by simp only [look_putE]; rw [if_pos f3]; exact e1, e2⟩
    ·rw [getD_set_ne false (Ne.symm haj)] at hla
     obtain ⟨m, r, c', e1, e2⟩ := hinv.made a d had hla
     exact ⟨m, r, c', by simp only [look_putE]; rw [if_neg (f5 j oj hj (fun e => haj e.symm))]; exact e1, e2⟩
   rcases dstep_eq h2 with ⟨y, hh, he2, hw2, hs2, hd2⟩ | ⟨hw2, hs2, hd2⟩
   ·simp only at he2 hw2 hs2 hd2
    rw [hj0.2] at he2
    rw [hj0.1] at hw2
    have hsj : dstep c.T K all st oj = some { st with heap := hh, env := putE st.env oj.dst y } := by
     unfold dstep
     rw [hw2, he2]
     exact putO_iff.2 ⟨hd2, rfl⟩
    have hlen := eff_len he2
    have hnew : ∀ a d, (a, d) ∈ freshOf all (markOf all ts) → a = j → ∃ m r c', y = .ptr m r c' ∧ m ≠ mi := by
     rintro a d had rfl
     obtain ⟨oa, ta, f1, f2, f3, f4, f6, f5⟩ := freshOf_spec had
     rw [hj] at f1
     injection f1 with f1
     subst f1
     rw [f2] at he2
     simp only [eff, anew] at he2
     split at he2
     ·rename_i b he3
      split at he3
      ·simp at he3
      ·cases he3
     ·simp only [Option.some.injEq, Prod.mk.injEq] at he2
      exact ⟨_, _, _, he2.1.symm, fun e => by have := hinv.lt; omega⟩
     ·cases he2
    rcases hmf with hm | hf
    ·obtain ⟨e, rfl⟩ := ext_eff hm he2
     exact fin y _ (bes_appL hinv.lt) (by have := hinv.lt; simp; omega) hd2 hs2 hsj (keep y _ (by have := hinv.lt; simp; omega) hnew)
    ·unfold freshStore at hf
     rw [hj] at hf
     simp only at hf
     split at hf
     ·rename_i t' d x' hst
      obtain ⟨⟨a, d'⟩, had, hab⟩ := List.any_eq_true.1 hf
      simp only [Bool.and_eq_true, beq_iff_eq] at hab
      obtain ⟨rfl, hab⟩ := hab
      have hla : listed.getD a false = true := by
       obtain ⟨_, oj', hoj', hall⟩ := mem_ready.1 hready
       rw [hj] at hoj'
       injection hoj' with hoj'
       subst hoj'
       unfold bindsOn at hab
       rw [hj] at hab
       simp only at hab
       obtain ⟨e, he, hbe⟩ := Array.any_eq_true'.1 hab
       simp only [Bool.and_eq_true, beq_iff_eq] at hbe
       rw [← hbe.2]
       exact hall e he hbe.1
      obtain ⟨m, r, c', e1, e2⟩ := hinv.made a d' had hla
      rw [hst] at he2
      simp only [eff] at he2
      split at he2
      ·rename_i m2 b2 hb2
       simp only [Option.some.injEq, Prod.mk.injEq] at he2
       have hm2 : m2 = m := by
        simp only [astore, ev, e1] at hb2
        split at hb2
        ·rename_i h9 _
         simp only [A.ptr.injEq] at h9
         split at hb2
         ·split at hb2
          ·split at hb2
           ·simp only [Option.some.injEq, Prod.mk.injEq] at hb2
            rw [← hb2.1, h9.1]
           ·cases hb2
          ·cases hb2
         ·cases hb2
        ·cases hb2
       subst hm2
       obtain ⟨hy, rfl⟩ := he2
       exact fin y _ (bes_set e2) (by have := hinv.lt; simpa using this) hd2 hs2 hsj (keep y _ (by have := hinv.lt; simpa using this) hnew)
      ·cases he2
     ·cases hf
   ·simp only at hw2 hs2 hd2
    rw [hj0.1] at hw2
    have hsj : dstep c.T K all st oj = some { st with env := putE st.env oj.dst (.tup []) } := by
     unfold dstep
     rw [hw2]
     exact putO_iff.2 ⟨hd2, rfl⟩
    refine fin (.tup []) st.heap rfl hinv.lt hd2 hs2 hsj (keep _ _ hinv.lt ?_)
    rintro a d had rfl
    obtain ⟨oa, ta, f1, f2, f3, f4, f6, f5⟩ := freshOf_spec had
    rw [hj] at f1
    injection f1 with f1
    subst f1
    rw [wanted_true f6] at hw2
    cases hw2
  ·have := hinv.sup j (by simpa using hjl)
   rw [hjun] at this
   cases this
 ·exact (by simpa using (c3 j hj).1)
 ·obtain ⟨oa, ta, f1, f2, f3, f4, f6, f5⟩ := freshOf_spec had
  have : (markOf all ts).getD a false = false := by
   have := (Array.getElem?_eq_some_iff.1 f1).1
   simp only [Array.getD_eq_getD_getElem?] at f4 ⊢
   cases hx : (markOf all ts)[a]? <;> simp_all
  rw [this] at hla
  cases hla
end
end Go.Proofs.Ytimgfinlbhodhaa.Ab
namespace Go.Proofs.Ytimgfinlbhodhaa.Ab
open Go
set_option linter.unusedVariables false
set_option linter.unusedSimpArgs false
mutual
/-- Other names, by a function. -/
def mpA (r : Nat → Nat) : A → A
 | .sl m lo len => .sl (r m) lo len
 | .ptr m i j => .ptr (r m) i j
 | .agg cs => .agg (mpL r cs)
 | .tup cs => .tup (mpL r cs)
 | .fn f cs => .fn f (mpL r cs)
 | .row own sz es => if own then .row true sz (mpLL r es) else .row false sz es
 | .box cs => .box (mpL r cs)
 | .any => .any
 | .int k n => .int k n
 | .bool b => .bool b
 | .str s => .str s
 | .nils => .nils
 | .nilp => .nilp
 | .rp sz es i j => .rp sz es i j
def mpL (r : Nat → Nat) : List A → List A
 | [] => []
 | a :: as => mpA r a :: mpL r as
def mpLL (r : Nat → Nat) : List (List A) → List (List A)
 | [] => []
 | e :: es => mpL r e :: mpLL r es
end
theorem mpL_len (r : Nat → Nat) (as : List A) : (mpL r as).length = as.length := by
 induction as with
 | nil => rfl
 | cons a as ih => simp [mpL, ih]
theorem mpLL_map (r : Nat → Nat) (es : List (List A)) : mpLL r es = es.map (mpL r) := by
 induction es with
 | nil => rfl
 | cons a as ih => simp [mpLL, ih]
theorem mpLL_app (r : Nat → Nat) (a b : List (List A)) : mpLL r (a ++ b) = mpLL r a ++ mpLL r b := by simp [mpLL_map]
mutual
theorem mpA_pure {r : Nat → Nat} {x : A} (h : pureA x = true) : mpA r x = x := by
 cases x with
 | row own sz es =>
  cases own with
  | false => rfl
  | true => simp only [pureA, if_true] at h; simp only [mpA, if_true, mpLL_pure h]
 | agg cs => simp only [pureA] at h; simp only [mpA, mpL_pure h]
 | tup cs => simp only [pureA] at h; simp only [mpA, mpL_pure h]
 | fn f cs => simp only [pureA] at h; simp only [mpA, mpL_pure h]
 | box cs => simp only [pureA] at h; simp only [mpA, mpL_pure h]
 | sl m lo len => simp [pureA] at h
 | ptr m i j => simp [pureA] at h
 | _ => rfl
theorem mpL_pure {r : Nat → Nat} {xs : List A} (h : pureL xs = true) : mpL r xs = xs := by
 cases xs with
 | nil => rfl
 | cons x xs => simp only [pureL, Bool.and_eq_true] at h; simp only [mpL, mpA_pure h.1, mpL_pure h.2]
theorem mpLL_pure {r : Nat → Nat} {es : List (List A)} (h : pureLL es = true) : mpLL r es = es := by
 cases es with
 | nil => rfl
 | cons e es => simp only [pureLL, Bool.and_eq_true] at h; simp only [mpLL, mpL_pure h.1, mpLL_pure h.2]
end
section
variable {w : World} {S : Nat → Prop} {φ Φ : List (Option Loc)} {r : Nat → Nat}
mutual
theorem mpA_rel (hr0 : ∀ i l, φ[i]? = some (some l) → Φ[r i]? = some (some l)) {x : A} {v : Value} {f : List Nat} (h : Rel w S φ x v f) : Rel w S Φ (mpA r x) v f := by
 cases x with
 | sl m lo len => cases h with | sl hm hlo hl ha => exact .sl (hr0 _ _ hm) hlo hl ha
 | ptr m i j => cases h with | ptr hm => exact .ptr (hr0 _ _ hm)
 | agg cs => cases h with | agg hr => exact .agg (mpL_rel hr0 hr)
 | tup cs => cases h with | tup hr => exact .tup (mpL_rel hr0 hr)
 | fn f cs => cases h with | fn hr => exact .fn (mpL_rel hr0 hr)
 | row own sz es =>
  cases own with
  | true =>
   simp only [mpA, if_true]
   cases h with
   | own hh hz hu hr hc hl =>
    have hlen : (mpLL r es).length = es.length := by rw [mpLL_map]; simp
    rw [← hlen] at hl ⊢
    exact .own hh hz (by rw [mpLL_map]; intro e he; obtain ⟨x, hx, rfl⟩ := List.mem_map.1 he; rw [mpL_len]; exact hu x hx) (mpLF_rel hr0 hr) hc hl
   | own0 => exact .own0 _ _
  | false => cases h with
   | ro hu hr hc hl => exact .ro hu hr hc hl
   | ro0 => exact .ro0 _ _ _
 | box cs => cases h with | box hh hz hl hc hr => exact .box hh (by rw [mpL_len]; exact hz) hl hc (mpL_rel hr0 hr)
 | any => cases h; exact .any _
 | int k n => cases h; exact .int _ _
 | bool b => cases h; exact .bool _
 | str s => cases h; exact .str _
 | nils => cases h; exact .nils
 | nilp => cases h; exact .nilp
 | rp sz es i j => cases h with | rp hu hr hc => exact .rp hu hr hc
theorem mpL_rel (hr0 : ∀ i l, φ[i]? = some (some l) → Φ[r i]? = some (some l)) {xs : List A} {vs : List Value} {f : List Nat} (h : RelL w S φ xs vs f) : RelL w S Φ (mpL r xs) vs f := by
 cases xs with
 | nil => cases h; exact .nil
 | cons x xs => cases h with | cons h1 h2 => exact .cons (mpA_rel hr0 h1) (mpL_rel hr0 h2)
theorem mpLF_rel (hr0 : ∀ i l, φ[i]? = some (some l) → Φ[r i]? = some (some l)) {es : List (List A)} {vs : List Value} {f : List Nat} (h : RelL w S φ es.flatten vs f) : RelL w S Φ (mpLL r es).flatten vs f := by
 cases es with
 | nil => cases h; exact .nil
 | cons e es =>
  rw [List.flatten_cons] at h
  obtain ⟨u1, u2, g1, g2, rfl, rfl, r1, r2⟩ := h.split
  simp only [mpLL, List.flatten_cons]
  exact (mpL_rel hr0 r1).append (mpLF_rel hr0 r2)
end
def mpB (r : Nat → Nat) : Option Blk → Option Blk
 | some (sz, es) => some (sz, mpLL r es)
 | none => none
def mpH (r : Nat → Nat) : Heap → Heap
 | [] => []
 | b :: h => mpB r b :: mpH r h
theorem mpB_rel (hr0 : ∀ i l, φ[i]? = some (some l) → Φ[r i]? = some (some l)) {b : Option Blk} {l : Option Loc} {f : List Nat} (h : BRel w S φ b l f) : BRel w S Φ (mpB r b) l f := by
 cases b with
 | none => exact h
 | some b =>
  obtain ⟨sz, es⟩ := b
  cases l with
  | none => exact h.elim
  | some l =>
   obtain ⟨hz, h | ⟨arr, ty, vs, f0, e, h1, h2, h3, h4, h5, h6⟩⟩ := h
   ·refine ⟨hz, .inl ⟨h.1, ?_, h.2.2⟩⟩
    rw [h.2.1]; rfl
   ·refine ⟨hz, .inr ⟨arr, ty, vs, f0, e, h1, h2, ?_, mpLF_rel hr0 h4, h5, ?_⟩⟩
    ·rw [mpLL_map]; intro e he; obtain ⟨x, hx, rfl⟩ := List.mem_map.1 he; rw [mpL_len]; exact h3 x hx
    ·rw [mpLL_map]; simpa using h6
theorem mpH_rel (hr0 : ∀ i l, φ[i]? = some (some l) → Φ[r i]? = some (some l)) {h : Heap} {ls : List (Option Loc)} {f : List Nat} (H : HRel w S φ h ls f) : HRel w S Φ (mpH r h) ls f := by
 induction H with
 | nil => exact .nil
 | cons hb hs ih => exact .cons (mpB_rel hr0 hb) ih
theorem mpH_len (r : Nat → Nat) (h : Heap) : (mpH r h).length = h.length := by
 induction h with
 | nil => rfl
 | cons b h ih => simp [mpH, ih]
def killAll (h : Heap) : List Nat → Heap
 | [] => h
 | m :: s => killAll (h.set m none) s
theorem killAll_out (s : List Nat) : ∀ (h : Heap) (x : Nat), x ∉ s → (killAll h s)[x]? = h[x]? := by
 induction s with
 | nil => intro h x _; rfl
 | cons m s ih =>
  intro h x hx
  simp only [List.mem_cons, not_or] at hx
  rw [killAll, ih _ _ hx.2, List.getElem?_set_ne (fun e => hx.1 e.symm)]
theorem killAll_in (s : List Nat) : ∀ (h : Heap) (x : Nat), x ∈ s → x < h.length → (killAll h s)[x]? = some none := by
 induction s with
 | nil => intro h x hx; simp at hx
 | cons m s ih =>
  intro h x hx hl
  rw [killAll]
  by_cases hxs : x ∈ s
  ·exact ih _ _ hxs (by simpa using hl)
  ·rw [killAll_out _ _ _ hxs]
   rcases List.mem_cons.1 hx with rfl | hx
   ·exact List.getElem?_set_self hl
   ·exact absurd hx hxs
theorem rn_split (all : List Nat) (sel : List Nat) : ∀ {h : Heap} {fs : List Nat}, HRel w S φ h φ fs → fs.Nodup → sel.Nodup →
  ∃ fr fk, HRel w S (pickφ φ all) (sel.map fun m => rnB all ((h[m]?).getD none)) (pickφ φ sel) fk ∧ HRel w S φ (killAll h sel) φ fr ∧ fs.Perm (fr ++ fk) := by
 induction sel with
 | nil => intro h fs H hn hs; exact ⟨fs, [], .nil, H, by simp⟩
 | cons m sel ih =>
  intro h fs H hn hs
  have hs2 := List.nodup_cons.1 hs
  have heq : ∀ h : Heap, (sel.map fun x => rnB all (((h.set m none)[x]?).getD none)) = sel.map fun x => rnB all ((h[x]?).getD none) := by
   intro h
   apply List.map_congr_left
   intro x hx
   have : m ≠ x := fun e => hs2.1 (by rw [e]; exact hx)
   rw [List.getElem?_set_ne this]
  have non : (h[m]?).getD none = none → h.set m none = h → ∃ fr fk, HRel w S (pickφ φ all) ((m :: sel).map fun m => rnB all ((h[m]?).getD none)) (pickφ φ (m :: sel)) fk ∧ HRel w S φ (killAll h (m :: sel)) φ fr ∧ fs.Perm (fr ++ fk) := by
   intro hm he
   obtain ⟨fr, fk, g1, g2, g3⟩ := ih H hn hs2.2
   refine ⟨fr, [] ++ fk, ?_, ?_, by simpa using g3⟩
   ·simp only [pickφ, List.map_cons, hm]
    exact .cons rfl g1
   ·rw [killAll, he]; exact g2
  cases hm : h[m]? with
  | none => exact non (by rw [hm]; rfl) (List.set_eq_of_length_le (by simpa using hm))
  | some b =>
   cases b with
   | none => exact non (by rw [hm]; rfl) (heap_same hm)
   | some b =>
    obtain ⟨l, fr0, fb, q1, q2, q3, q4⟩ := H.kill hn hm
    have hnd := q4.nodup hn
    have hnd2 := List.nodup_append.1 hnd
    obtain ⟨fr, fk, g1, g2, g3⟩ := ih q3 hnd2.1 hs2.2
    rw [heq] at g1
    refine ⟨fr, fb ++ fk, ?_, ?_, ?_⟩
    ·simp only [pickφ, List.map_cons, hm, q1, Option.getD_some]
     exact .cons (rnB_rel q2) g1
    ·rw [killAll]; exact g2
    ·refine q4.trans ?_
     refine (List.Perm.append_right fb g3).trans ?_
     rw [List.append_assoc]
     exact List.Perm.append_left fr List.perm_append_comm
def putAll {α : Type} : List α → List Nat → List α → List α
 | k, m :: s, b :: h => putAll (k.set m b) s h
 | k, _, _ => k
theorem putAll_len {α : Type} (s : List Nat) : ∀ (k h : List α), (putAll k s h).length = k.length := by
 induction s with
 | nil => intro k h; cases h <;> rfl
 | cons m s ih =>
  intro k h
  cases h with
  | nil => rfl
  | cons b h => simp [putAll, ih]
theorem putAll_out {α : Type} (s : List Nat) : ∀ (k h : List α) (x : Nat), x ∉ s → (putAll k s h)[x]? = k[x]? := by
 induction s with
 | nil => intro k h x _; cases h <;> rfl
 | cons m s ih =>
  intro k h x hx
  simp only [List.mem_cons, not_or] at hx
  cases h with
  | nil => rfl
  | cons b h => rw [putAll, ih _ _ _ hx.2, List.getElem?_set_ne (fun e => hx.1 e.symm)]
theorem putAll_in {α : Type} (s : List Nat) : ∀ (k h : List α) (i m : Nat) (b : α), s.Nodup → (∀ x ∈ s, x < k.length) → s[i]? = some m → h[i]? = some b → (putAll k s h)[m]? = some b := by
 induction s with
 | nil => intro k h i m b _ _ hi; simp at hi
 | cons m0 s ih =>
  intro k h i m b hn hl hi hb
  have hn2 := List.nodup_cons.1 hn
  cases h with
  | nil => simp at hb
  | cons b0 h =>
   rw [putAll]
   cases i with
   | zero =>
    simp only [List.getElem?_cons_zero, Option.some.injEq] at hi hb
    subst hi hb
    rw [putAll_out _ _ _ _ hn2.1]
    exact List.getElem?_set_self (hl _ (by simp))
   | succ i => exact ih _ _ i m b hn2.2 (fun x hx => by simpa using hl x (by simp [hx])) (by simpa using hi) (by simpa using hb)
theorem put_rel (sel : List Nat) : ∀ {K h1 : Heap} {ls l1 : List (Option Loc)} {fr f1 : List Nat}, HRel w S φ K ls fr → (∀ m ∈ sel, K[m]? = some none) → sel.Nodup → HRel w S φ h1 l1 f1 → h1.length = sel.length →
  ∃ f, HRel w S φ (putAll K sel h1) (putAll ls sel l1) f ∧ f.Perm (fr ++ f1) := by
 induction sel with
 | nil =>
  intro K h1 ls l1 fr f1 H hk hs H1 hl
  have := List.length_eq_zero_iff.1 hl
  subst this
  cases H1
  exact ⟨fr, H, by simp⟩
 | cons m sel ih =>
  intro K h1 ls l1 fr f1 H hk hs H1 hl
  have hs2 := List.nodup_cons.1 hs
  cases H1 with
  | nil => simp at hl
  | cons hb hsn =>
   rename_i b l fb bs ls1 fs1
   obtain ⟨l0, g1, g0, g2, q1, q2, q3, q4⟩ := H.at2 (hk m (by simp))
   have : g0 = [] := q2
   subst this
   have H2 := q4 w S (fun _ => False) φ b l fb (Fr.refl _ w) (fun b hb => .inl hb) (fun _ h => h.elim) (Ext.refl φ) (fun _ _ h => h) (fun _ _ h => h) hb
   obtain ⟨f, p1, p2⟩ := ih H2 (fun x hx => by
    have : m ≠ x := fun e => hs2.1 (by rw [e]; exact hx)
    rw [List.getElem?_set_ne this]
    exact hk x (by simp [hx])) hs2.2 hsn (by simpa using hl)
   refine ⟨f, p1, p2.trans ?_⟩
   rw [q3]
   simp only [List.nil_append, List.append_assoc]
   refine List.Perm.append_left g1 ?_
   rw [← List.append_assoc fb g2 fs1, ← List.append_assoc g2 fb fs1]
   exact List.Perm.append_right fs1 List.perm_append_comm
end
def bkI (sel : List Nat) (n : Nat) (i : Nat) : Nat :=
 match sel[i]? with
 | some m => m
 | none => n + (i - sel.length)
def mergeH (h : Heap) (sel : List Nat) (h' : Heap) : Heap := putAll (killAll h sel) sel ((mpH (bkI sel h.length) h').take sel.length) ++ (mpH (bkI sel h.length) h').drop sel.length
section
variable {c : Cx} {k : List It} {st st' : St} {all : Array Oper} {o : Oper} {l : List Oper}
theorem G.callF {fid : FuncId} {caps : List A} {fo : Operand} {args : Array Operand} {at_ : Array TypeId} {res : A} {h' hsel : Heap} {vargs : List A} (sel : List Nat) (he : Enters c.P fid)
  (ho : o.op = .call { callee := .value fo, args := args, argTypes := at_ }) (hg : o.guard = none) (hf : ev st.env fo = .fn fid caps) (hsn : sel.Nodup) (hsl : ∀ m ∈ sel, m < st.heap.length)
  (h1 : rnH st.heap sel = hsel) (h2 : rnL sel (callArgs st.env args caps) = vargs) (hc : MC c.P fid hsel vargs res h') (hlen : sel.length ≤ h'.length)
  (hp : (withH st (mergeH st.heap sel h')).putO o.dst (mpA (bkI sel st.heap.length) res) = some st') (h : G c (.ops all l :: k) st') : G c (.ops all (o :: l) :: k) st := by
 subst h1 h2
 intro a w φ fs hr hb
 have hfv := ev_rel hr fo
 rw [hf] at hfv
 generalize hfe : a.eval fo = fv at hfv
 cases hfv with
 | fn hcaps =>
  rename_i cvs
  have hargs : RelL w (Sof c.S0 fs) φ (callArgs st.env args caps) (args.toList.map a.eval ++ cvs) [] := (args_rel hr args.toList).append (f := []) (g := []) hcaps
  have hφl := hr.heap.length
  obtain ⟨fr, fk, g1, g2, g3⟩ := rn_split sel sel hr.heap hr.nodup hsn
  have hnd := List.nodup_append.1 (g3.nodup hr.nodup)
  have hkf : ∀ b ∈ fk, b ∈ fs := fun b hb => g3.mem_iff.2 (by simp [hb])
  have hrf : ∀ b ∈ fr, b ∈ fs := fun b hb => g3.mem_iff.2 (by simp [hb])
  let S1 : Nat → Prop := fun b => c.S0 b ∨ b ∈ fr
  have hS1 : ∀ b, Sof S1 fk b → Sof c.S0 fs b := fun b hb => by
   rcases hb with (hb | hb) | hb
   ·exact .inl hb
   ·exact .inr (hrf b hb)
   ·exact .inr (hkf b hb)
  have hlow1 : ∀ b, S1 b → b < w.heap.size := fun b hb => hb.elim (hr.low b) (fun hb => hr.heap.lt b (hrf b hb))
  have hap1 : ∀ b ∈ fk, ¬ S1 b := fun b hb hS => hS.elim (hr.apart b (hkf b hb)) (fun h => hnd.2.2 b h b hb rfl)
  have hargs1 := (rnL_rel (sel := sel) hargs).frame (S' := Sof S1 fk) (Fr.refl (fun _ => False) w) (fun b hb => .inl (hS1 b hb)) (fun _ h => h.elim) (Ext.refl _) (fun _ _ h => h)
  have hcall := hc w S1 (args.toList.map a.eval ++ cvs) (pickφ φ sel) fk hlow1 (g1.sub hS1) hnd.2.1 hap1 hargs1
  show wpList c.P all (cont c.P k c.Q) (o :: l) a w
  simp only [wpList]
  rw [if_pos (by simp [Region.wanted, hg])]
  refine .inl ?_
  unfold Oper.wp
  have hrun : (execOp a.eval o).run c.P w = .ok (.enter fid (args.toList.map a.eval ++ cvs).toArray) w := by
   unfold execOp
   rw [ho]
   simp only [resolve, hfe, Deferred.ofValue, invoke, Sem.run_bind, Sem.run_pure, Result.andThen_ok]
   have e : (#[] ++ Array.map a.eval args ++ cvs.toArray : Array Value) = (args.toList.map a.eval ++ cvs).toArray := by apply Array.ext'; simp
   rw [e]
   exact he _ w
  rw [hrun]
  simp only [Oper.upon]
  refine hcall.mono ?_
  rintro e w' ⟨v, φ2, fs2, rfl, r1, r2, r3, r4, r5, r6⟩
  have hl2 := r2.length
  -- the names
  let Φ : List (Option Loc) := putAll φ sel (φ2.take sel.length) ++ φ2.drop sel.length
  have hΦn : ∀ i l, φ2[i]? = some (some l) → Φ[bkI sel st.heap.length i]? = some (some l) := by
   intro i l hi
   unfold bkI
   cases hs : sel[i]? with
   | some m =>
    have hil := (List.getElem?_eq_some_iff.1 hs).1
    have hm : m ∈ sel := List.mem_of_getElem? hs
    have hml := hsl m hm
    have : (putAll φ sel (φ2.take sel.length))[m]? = some (some l) := putAll_in sel φ _ i m _ hsn (fun x hx => by rw [hφl]; exact hsl x hx) hs (by rw [List.getElem?_take_of_lt hil]; exact hi)
    show (putAll φ sel (φ2.take sel.length) ++ φ2.drop sel.length)[m]? = _
    rw [List.getElem?_append_left (by rw [putAll_len, hφl]; exact hml)]
    exact this
   | none =>
    have hil : sel.length ≤ i := by simpa using hs
    show (putAll φ sel (φ2.take sel.length) ++ φ2.drop sel.length)[st.heap.length + (i - sel.length)]? = _
    rw [List.getElem?_append_right (by rw [putAll_len, hφl]; omega), putAll_len, hφl, List.getElem?_drop]
    rw [show sel.length + (st.heap.length + (i - sel.length) - st.heap.length) = i by omega]
    exact hi
  have hext : Ext φ Φ := by
   intro m l hm
   have hml := (List.getElem?_eq_some_iff.1 hm).1
   show (putAll φ sel (φ2.take sel.length) ++ φ2.drop sel.length)[m]? = _
   rw [List.getElem?_append_left (by rw [putAll_len]; exact hml)]
   by_cases hms : m ∈ sel
   ·obtain ⟨i, hi⟩ := List.getElem?_of_mem hms
    have hil := (List.getElem?_eq_some_iff.1 hi).1
    have hp : (pickφ φ sel)[i]? = some (some l) := by unfold pickφ; rw [List.getElem?_map, hi]; simp [hm]
    exact putAll_in sel φ _ i m _ hsn (fun x hx => by rw [hφl]; exact hsl x hx) hi (by rw [List.getElem?_take_of_lt hil]; exact r5 i l hp)
   ·rw [putAll_out _ _ _ _ hms]; exact hm
  -- the memory
  have hmem2 : ∀ b ∈ fs2, b ∈ fs ∨ w.heap.size ≤ b := fun b hb => (r4 b hb).imp (hkf b) id
  have hdis : ∀ x ∈ fr, ∀ y ∈ fs2, x ≠ y := fun x hx y hy e => by
   subst e
   rcases r4 x hy with h | h
   ·exact hnd.2.2 x hx x h rfl
   ·have := hr.heap.lt x (hrf x hx); omega
  have hfT : ∀ b, b ∈ fk → Sof c.S0 fs b := fun b hb => .inr (hkf b hb)
  have hSn : ∀ (fn : List Nat), (∀ b ∈ fn, b ∈ fr ++ fs2) → ∀ b, Sof c.S0 fn b → Sof c.S0 fs b ∨ w.heap.size ≤ b := fun fn hfn b hb => by
   rcases hb with hb | hb
   ·exact .inl (.inl hb)
   ·rcases List.mem_append.1 (hfn b hb) with h | h
    ·exact .inl (.inr (hrf b h))
    ·exact (hmem2 b h).imp .inr id
  have hS2 : ∀ (fn : List Nat), (∀ b ∈ fn, b ∈ fr ++ fs2) → ∀ b, Sof c.S0 fn b → Sof S1 fs2 b := fun fn hfn b hb => by
   rcases hb with hb | hb
   ·exact .inl (.inl hb)
   ·rcases List.mem_append.1 (hfn b hb) with h | h
    ·exact .inl (.inr h)
    ·exact .inr h
  have key : ∃ fn, HRel w' (Sof c.S0 fn) Φ (mergeH st.heap sel h') Φ fn ∧ fn.Perm (fr ++ fs2) := by
   have HR := g2.frame (S' := Sof c.S0 (fr ++ fs2)) r6 (hSn _ (fun _ h => h)) hfT hext (fun g hg hk => hnd.2.2 g hg g hk rfl)
   have HN := mpH_rel hΦn (r2.sub (S' := Sof c.S0 (fr ++ fs2)) (hS2 _ (fun _ h => h)))
   have hsplit : mpH (bkI sel st.heap.length) h' = (mpH (bkI sel st.heap.length) h').take sel.length ++ (mpH (bkI sel st.heap.length) h').drop sel.length := (List.take_append_drop _ _).symm
   rw [hsplit] at HN
   obtain ⟨l1, l2, f1, f2, e1, e2, q1, q2⟩ := HN.part
   have hl1 : l1.length = sel.length := by rw [q1.length, List.length_take, mpH_len]; omega
   obtain ⟨f, p1, p2⟩ := put_rel sel HR (fun m hm => killAll_in _ _ _ hm (hsl m hm)) hsn q1 (by rw [List.length_take, mpH_len]; omega)
   have hH := p1.append q2
   have ht : φ2.take sel.length = l1 := by rw [e1, ← hl1]; simp
   have hd : φ2.drop sel.length = l2 := by rw [e1, ← hl1]; simp
   refine ⟨f ++ f2, ?_, ?_⟩
   ·have hperm : (f ++ f2).Perm (fr ++ fs2) := by
     rw [e2, ← List.append_assoc]
     exact List.Perm.append_right f2 p2
    have hΦ : Φ = putAll φ sel l1 ++ l2 := by show putAll φ sel (φ2.take sel.length) ++ φ2.drop sel.length = _; rw [ht, hd]
    have h3 := hH.sub (S' := Sof c.S0 (f ++ f2)) (fun b hb => hb.imp id (fun h => hperm.mem_iff.1 h))
    have h4 : HRel w' (Sof c.S0 (f ++ f2)) Φ (mergeH st.heap sel h') (putAll φ sel l1 ++ l2) (f ++ f2) := h3
    rw [← hΦ] at h4
    exact h4
   ·rw [e2, ← List.append_assoc]
    exact List.Perm.append_right f2 p2
  obtain ⟨fn, k1, k2⟩ := key
  have hfn : ∀ b ∈ fn, b ∈ fs ∨ w.heap.size ≤ b := fun b hb => by
   rcases List.mem_append.1 (k2.mem_iff.1 hb) with h | h
   ·exact .inl (hrf b h)
   ·exact hmem2 b h
  have hst := hr.to (w' := w') (T := fun b => b ∈ fk) (φ' := Φ) (h' := mergeH st.heap sel h') (fs' := fn) r6 (fun b hb => hkf b hb) hfn hext (k2.symm.nodup (List.nodup_append.2 ⟨hnd.1, r3, hdis⟩)) k1
  have hres := (mpA_rel hΦn r1).frame (S' := Sof c.S0 fn) (Fr.refl (fun _ => False) w') (fun b hb => .inl (hS2 fn (fun b h => k2.mem_iff.1 h) b hb)) (fun _ h => h.elim) (Ext.refl _) (fun _ _ h => h)
  have hst2 : SRel c.S0 (withH st (mergeH st.heap sel h')) a w' Φ fn := hst
  exact h _ w' Φ fn (hst2.putO hres hp) (hb.step r6 (fun b hb => hkf b hb) hfn hext)
end
end Go.Proofs.Ytimgfinlbhodhaa.Ab
namespace Go.Proofs.Ytimgfinlbhodhaa.Ab
open Go
theorem G.joinR {c : Cx} {k : List It} {st st' : St} {id : Nat} {ops : Array Oper} (h1 : G c k st' → G c (.code (.region id ops true) :: k) st) (h2 : G c k st') : G c (.code (.region id ops true) :: k) st := h1 h2
theorem AC.weak {P : Program} {f : FuncId} {args : List A} {r r' : A} (h : AC P f args r) (hw : ∀ w S v g, Rel w S [] r v g → Rel w S [] r' v g) : AC P f args r' := by
 intro w S0 vs hl hr
 refine (h w S0 vs hl hr).mono fun e w' => ?_
 rintro ⟨v, fb, h1, h2, h3⟩
 exact ⟨v, fb, h1, hw _ _ _ _ h2, h3⟩
theorem weak_nil {w : World} {S : Nat → Prop} {x : A} {v : Value} {f : List Nat} (h : Rel w S [] (.agg [x, .nils]) v f) : Rel w S [] (.agg [x, .row true 1 []]) v f := by
 cases h with
 | agg h =>
  cases h with
  | cons h1 h =>
   cases h with
   | cons h2 h =>
    cases h2
    exact .agg (.cons h1 (.cons (.own0 _ _) h))
set_option linter.unusedVariables false
set_option linter.unusedSimpArgs false
inductive TC where
 | int (k : IntKind)
 | bool
 | str
 | row (sz by_ : Nat) (cells : List TC)
mutual
/-- A value of that cell: a row's weight is bounded. -/
def Typed (B : Nat) : TC → A → Prop
 | .int k, a => ∃ n, a = .int k n ∧ (Lit.int k n).wf = true
 | .bool, a => ∃ b, a = .bool b
 | .str, a => ∃ s, a = .str s ∧ s.size ≤ maxLen
 | .row sz by_ cs, a => ∃ es, a = .row false sz es ∧ es.length * by_ ≤ B ∧ ∀ e ∈ es, TypedL B cs e
def TypedL (B : Nat) : List TC → List A → Prop
 | [], as => as = []
 | c :: cs, as => ∃ a r, as = a :: r ∧ Typed B c a ∧ TypedL B cs r
end
theorem TypedL.len {B : Nat} : ∀ {cs : List TC} {as : List A}, TypedL B cs as → as.length = cs.length
 | [], as, h => by simp only [TypedL] at h; simp [h]
 | c :: cs, as, h => by
  simp only [TypedL] at h
  obtain ⟨a, r, rfl, _, h⟩ := h
  simp [TypedL.len h]
theorem TypedL.append {B : Nat} : ∀ {cs ds : List TC} {as bs : List A}, TypedL B cs as → TypedL B ds bs → TypedL B (cs ++ ds) (as ++ bs)
 | [], ds, as, bs, h, k => by simp only [TypedL] at h; subst h; exact k
 | c :: cs, ds, as, bs, h, k => by
  simp only [TypedL] at h
  obtain ⟨a, r, rfl, h1, h⟩ := h
  exact ⟨a, r ++ bs, rfl, h1, TypedL.append h k⟩
def flatF (P : Program) (go : TypeId → Option (List TC)) : Nat → List Field → Option (List TC)
 | _, [] => some []
 | off, f :: fs => match go f.type with
  | some cs => if f.offset = off ∧ cs.length = P.cellsOf f.type then (flatF P go (off + cs.length) fs).map (cs ++ ·) else none
  | none => none
def flat (P : Program) : Nat → TypeId → Option (List TC)
 | 0, _ => none
 | d + 1, t => match P.underlying t with
  | some (.int k) => some [.int k]
  | some .bool => some [.bool]
  | some .string => some [.str]
  | some (.slice e) => match flat P d e with
   | some cs => if cs.length = P.cellsOf e then some [.row (P.cellsOf e) (P.bytesOf e) cs] else none
   | none => none
  | some (.struct fs) => match flatF P (flat P d) 0 fs.toList with
   | some cs => if cs.length = P.cellsOf t then some cs else none
   | none => none
  | _ => none
section
variable {H : Type} {enc : TypeId × Value → H} {P : Program} {w : World} {base : Nat} {spare : Nat → Bool} {held : Bool} {B : Nat}
theorem weights_slice {t e : TypeId} {xs ys : List (DataW H)} (hu : P.underlying t = some (.slice e)) (h : ((DataW.slice xs ys).weights P t).all (· ≤ B) = true) : (xs.length + ys.length) * P.bytesOf e ≤ B ∧ (DataW.weightsAll P e xs).all (· ≤ B) = true := by
 unfold DataW.weights at h
 simp only [hu, List.all_cons, List.all_append, Bool.and_eq_true, decide_eq_true_eq] at h
 exact ⟨h.1, h.2.1⟩
theorem weights_all {e : TypeId} {xs : List (DataW H)} (h : (DataW.weightsAll P e xs).all (· ≤ B) = true) : ∀ x ∈ xs, (x.weights P e).all (· ≤ B) = true := by
 induction xs with
 | nil => simp
 | cons x xs ih =>
  unfold DataW.weightsAll at h
  simp only [List.all_append, Bool.and_eq_true] at h
  intro y hy
  rcases List.mem_cons.1 hy with rfl | hy
  ·exact h.1
  ·exact ih h.2 y hy
theorem weights_each {ts : List TypeId} {ds : List (DataW H)} (h : (DataW.weightsEach P ts ds).all (· ≤ B) = true) : ∀ (i : Nat) t d, ts[i]? = some t → ds[i]? = some d → (d.weights P t).all (· ≤ B) = true := by
 induction ts generalizing ds with
 | nil => intro i t d h1; simp at h1
 | cons t ts ih =>
  cases ds with
  | nil => intro i t d _ h2; simp at h2
  | cons d ds =>
   unfold DataW.weightsEach at h
   simp only [List.all_append, Bool.and_eq_true] at h
   intro i t' d' h1 h2
   cases i with
   | zero => simp at h1 h2; subst h1 h2; exact h.1
   | succ i => exact ih h.2 i t' d' (by simpa using h1) (by simpa using h2)
theorem rows_read {sz : Nat} {ad : Addr} (hsz : True) : ∀ (len i0 : Nat) (css : List (List Value)) (ess : List (List A)), css.length = len → ess.length = len → (∀ i, i < len → ∀ cs, css[i]? = some cs → cs.length = sz ∧ ∀ j v, cs[j]? = some v → w.cell? (ad.add ((i0 + i) * sz + j)) = some v) →
  (∀ i, i < len → ∀ cs es, css[i]? = some cs → ess[i]? = some es → RelL w (fun _ => False) [] es cs []) →
  RelL w (fun _ => False) [] ess.flatten css.flatten [] ∧ ∀ k v, css.flatten[k]? = some v → w.cell? (ad.add (i0 * sz + k)) = some v := by
 intro len
 induction len with
 | zero =>
  intro i0 css ess h1 h2 _ _
  have := List.length_eq_zero_iff.1 h1
  have := List.length_eq_zero_iff.1 h2
  subst_vars
  exact ⟨.nil, fun k v hk => by simp at hk⟩
 | succ len ih =>
  intro i0 css ess h1 h2 hc hr
  obtain ⟨c, css, rfl⟩ : ∃ c cs, css = c :: cs := by cases css with | nil => simp at h1 | cons c cs => exact ⟨c, cs, rfl⟩
  obtain ⟨e, ess, rfl⟩ : ∃ c cs, ess = c :: cs := by cases ess with | nil => simp at h2 | cons c cs => exact ⟨c, cs, rfl⟩
  obtain ⟨hl, h0⟩ := hc 0 (by omega) c rfl
  obtain ⟨g1, g2⟩ := ih (i0 + 1) css ess (by simpa using h1) (by simpa using h2) (fun i hi cs hcs => by
    have := hc (i + 1) (by omega) cs (by simpa using hcs)
    rw [show i0 + 1 + i = i0 + (i + 1) by omega]
    exact this) (fun i hi cs es hcs hes => hr (i + 1) (by omega) cs es (by simpa using hcs) (by simpa using hes))
  refine ⟨?_, ?_⟩
  ·rw [List.flatten_cons, List.flatten_cons]
   exact (hr 0 (by omega) c e rfl rfl).append (f := []) (g := []) g1
  ·intro k v hk
   rw [List.flatten_cons] at hk
   by_cases hlt : k < c.length
   ·rw [List.getElem?_append_left hlt] at hk
    simpa using h0 k v hk
   ·rw [List.getElem?_append_right (by omega)] at hk
    have := g2 (k - c.length) v hk
    rw [show i0 * sz + k = (i0 + 1) * sz + (k - c.length) by rw [Nat.add_mul]; omega]
    exact this
theorem trod_rel : ∀ (d : Nat) (t : TypeId) (codes : List TC), flat P d t = some codes → ∀ (n : Nat) (vs : List Value) (x : DataW H × List MemPlace), DataW.trod enc P w base spare held n t vs = some x → (x.1.weights P t).all (· ≤ B) = true →
  ∃ as, RelL w (fun _ => False) [] as vs [] ∧ TypedL B codes as := by
 intro d
 induction d with
 | zero => intro t codes h; simp [flat] at h
 | succ d ih =>
  intro t codes hf n vs x hx hw
  unfold flat at hf
  split at hf
  ·rename_i k hu
   injection hf with hf
   subst hf
   obtain ⟨m, rfl, rfl, hm⟩ := DataW.trod_int hu hx
   exact ⟨[.int k m], .cons (f := []) (fs := []) (.int _ _) .nil, ⟨_, _, rfl, ⟨m, rfl, hm⟩, rfl⟩⟩
  ·rename_i hu
   injection hf with hf
   subst hf
   cases n with
   | zero => simp [DataW.trod] at hx
   | succ n =>
    unfold DataW.trod at hx
    rw [hu] at hx
    split at hx <;> simp_all
    exact ⟨[.bool _], .cons (f := []) (fs := []) (.bool _) .nil, ⟨_, _, rfl, ⟨_, rfl⟩, rfl⟩⟩
  ·rename_i hu
   injection hf with hf
   subst hf
   cases n with
   | zero => simp [DataW.trod] at hx
   | succ n =>
    unfold DataW.trod at hx
    rw [hu] at hx
    split at hx <;> simp_all
    exact ⟨[.str _], .cons (f := []) (fs := []) (.str _) .nil, ⟨_, _, rfl, ⟨_, rfl, hx.1⟩, rfl⟩⟩
  ·rename_i e hu
   split at hf
   ·rename_i cs hcs
    split at hf
    ·rename_i hlen
     injection hf with hf
     subst hf
     rcases DataW.trod_slice hu hx with ⟨rfl, rfl⟩ | ⟨a, len, cap, elems, rest, m, rfl, rfl, rfl, hb, hl, hcap, hel, hget, _, _⟩
     ·exact ⟨[.row false (P.cellsOf e) []], .cons (f := []) (fs := []) (.ro0 _ _ _) .nil, ⟨_, _, rfl, ⟨[], rfl, by simp, by simp⟩, rfl⟩⟩
     ·obtain ⟨hw1, hw2⟩ := weights_slice hu hw
      have hw3 := weights_all hw2
      have each : ∀ i, i < len → ∃ vs, w.cells? base (a.add (i * P.cellsOf e)) (P.cellsOf e) = some vs ∧ ∃ as, RelL w (fun _ => False) [] as vs [] ∧ TypedL B cs as := by
       intro i hi
       have hg := hget i hi
       have hi2 : i < elems.length := by omega
       rw [List.getElem?_eq_getElem hi2, Option.bind_eq_some_iff] at hg
       obtain ⟨vs, h1, h2⟩ := hg
       exact ⟨vs, h1, ih e cs hcs m vs _ h2 (hw3 _ (by simp only [List.mem_map]; exact ⟨_, List.getElem_mem hi2, rfl⟩))⟩
      have ech : ∀ L, (∀ i, i < L → ∃ vs, w.cells? base (a.add (i * P.cellsOf e)) (P.cellsOf e) = some vs ∧ ∃ as, RelL w (fun _ => False) [] as vs [] ∧ TypedL B cs as) →
        ∃ (css : List (List Value)) (ess : List (List A)), css.length = L ∧ ess.length = L ∧ ∀ i, i < L → ∃ c s, css[i]? = some c ∧ ess[i]? = some s ∧ w.cells? base (a.add (i * P.cellsOf e)) (P.cellsOf e) = some c ∧ RelL w (fun _ => False) [] s c [] ∧ TypedL B cs s := by
       intro L
       induction L with
       | zero => intro _; exact ⟨[], [], rfl, rfl, by intro i hi; omega⟩
       | succ L ihl =>
        intro hea
        obtain ⟨css, ess, l1, l2, hh⟩ := ihl (fun i hi => hea i (by omega))
        obtain ⟨c, hc, s, h1, h2⟩ := hea L (by omega)
        refine ⟨css ++ [c], ess ++ [s], by simp [l1], by simp [l2], fun i hi => ?_⟩
        by_cases hlt : i < L
        ·obtain ⟨c', s', g1, g2, g3⟩ := hh i hlt
         exact ⟨c', s', by rw [List.getElem?_append_left (by omega)]; exact g1, by rw [List.getElem?_append_left (by omega)]; exact g2, g3⟩
        ·have : i = L := by omega
         subst this
         exact ⟨c, s, by rw [List.getElem?_append_right (by omega)]; simp [l1], by rw [List.getElem?_append_right (by omega)]; simp [l2], hc, h1, h2⟩
      obtain ⟨css, ess, l1, l2, hh⟩ := ech len each
      have hty : ∀ s ∈ ess, TypedL B cs s := by
       intro s hs
       obtain ⟨i, hi, rfl⟩ := List.getElem_of_mem hs
       obtain ⟨c, s', _, g2, _, _, g5⟩ := hh i (by omega)
       rw [List.getElem?_eq_getElem hi] at g2
       injection g2 with g2
       rw [g2]; exact g5
      have hrr := rows_read (w := w) (sz := P.cellsOf e) (ad := a) trivial len 0 css ess l1 l2 (fun i hi c hc => by
        obtain ⟨c', s', g1, _, g3, _, _⟩ := hh i hi
        rw [g1] at hc
        injection hc with hc
        subst hc
        obtain ⟨_, q1, q2⟩ := World.cells?_some g3
        refine ⟨q1, fun j v hj => ?_⟩
        have hjl : j < P.cellsOf e := by rw [← q1]; exact (List.getElem?_eq_some_iff.1 hj).1
        have := q2 j hjl
        rw [add_add] at this
        rw [Nat.zero_add, this, hj]) (fun i hi c s hc hs => by
        obtain ⟨c', s', g1, g2, _, g4, _⟩ := hh i hi
        rw [g1] at hc
        rw [g2] at hs
        injection hc with hc
        injection hs with hs
        subst hc hs
        exact g4)
      refine ⟨[.row false (P.cellsOf e) ess], .cons (f := []) (fs := []) ?_ .nil, ⟨_, _, rfl, ⟨ess, rfl, ?_, hty⟩, rfl⟩⟩
      ·have := Rel.ro (w := w) (S := fun _ => False) (φ := []) (es := ess) (ad := a) (cap := cap) (sz := P.cellsOf e) (fun s hs => by rw [(hty s hs).len, hlen]) hrr.1 (fun k v hk => ⟨by simpa using hrr.2 k v hk, fun h => h⟩) (by omega)
       rw [l2] at this
       exact this
      ·rw [l2, ← hel]
       simp only [List.length_map] at hw1
       exact Nat.le_trans (Nat.mul_le_mul_right _ (by omega)) hw1
    ·cases hf
   ·cases hf
  ·rename_i fs hu
   split at hf
   ·rename_i cs hcs
    split at hf
    ·rename_i hlen
     injection hf with hf
     subst hf
     obtain ⟨xs, m, rfl, rfl, hl, hxl, hget⟩ := DataW.trod_struct hu hx
     have hwf : ∀ (i : Nat) t d, (fs.toList.map (·.type))[i]? = some t → (xs.map (·.1))[i]? = some d → (d.weights P t).all (· ≤ B) = true := by
      unfold DataW.weights at hw
      simp only [hu] at hw
      exact weights_each hw
     -- field after field
     have go : ∀ (l : List Field) (i off : Nat) (cs : List TC), (∀ j, l[j]? = fs[i + j]?) → flatF P (flat P d) off l = some cs → off + cs.length ≤ vs.length → ∃ as, RelL w (fun _ => False) [] as ((vs.drop off).take cs.length) [] ∧ TypedL B cs as := by
      intro l
      induction l with
      | nil =>
       intro i off cs _ hc _
       simp only [flatF, Option.some.injEq] at hc
       subst hc
       exact ⟨[], by simpa using RelL.nil, rfl⟩
      | cons f l ihl =>
       intro i off cs hj hc hle
       simp only [flatF] at hc
       split at hc
       ·rename_i c1 hc1
        split at hc
        ·rename_i hcond
         obtain ⟨ho, hcl⟩ := hcond
         obtain ⟨c2, hc2, rfl⟩ := Option.map_eq_some_iff.1 hc
         have hfi : fs[i]? = some f := by have := hj 0; simpa using this.symm
         have hg := hget i f hfi
         have hil : i < xs.length := by rw [hxl]; exact (Array.getElem?_eq_some_iff.1 hfi).1
         rw [List.getElem?_eq_getElem hil] at hg
         obtain ⟨as1, r1, t1⟩ := ih f.type c1 hc1 m _ _ hg (hwf i f.type _ (by simp [hfi]) (by simp [hil]))
         simp only [List.length_append] at hle
         obtain ⟨as2, r2, t2⟩ := ihl (i + 1) (off + c1.length) c2 (fun j => by have := hj (j + 1); simpa [Nat.add_assoc, Nat.add_comm 1 j] using this) hc2 (by omega)
         refine ⟨as1 ++ as2, ?_, t1.append t2⟩
         rw [ho, ← hcl] at r1
         have e : (vs.drop off).take (c1 ++ c2).length = (vs.drop off).take c1.length ++ (vs.drop (off + c1.length)).take c2.length := by
          rw [List.length_append, List.take_add, List.drop_drop]
         rw [e]
         exact r1.append (f := []) (g := []) r2
        ·cases hc
       ·cases hc
     obtain ⟨as, r, ty⟩ := go fs.toList 0 0 cs (fun j => by simp) hcs (by omega)
     refine ⟨as, ?_, ty⟩
     have e : (vs.drop 0).take cs.length = vs := by rw [List.drop_zero, List.take_of_length_le (by omega)]
     rw [e] at r
     exact r
    ·cases hf
   ·cases hf
  ·cases hf
end
def bv (x : Int) : List A := [.int .u8 x]
theorem typed_bytes {es : List (List A)} (h : ∀ e ∈ es, TypedL reachBytes [.int .u8] e) : ∃ l : List Int, es = l.map bv ∧ ∀ x ∈ l, 0 ≤ x ∧ x ≤ 255 := by
 induction es with
 | nil => exact ⟨[], rfl, by simp⟩
 | cons e es ih =>
  obtain ⟨l, rfl, hl⟩ := ih (fun x hx => h x (by simp [hx]))
  have he := h e (by simp)
  simp only [TypedL, Typed] at he
  obtain ⟨_, _, rfl, ⟨a, rfl, ha⟩, rfl⟩ := he
  refine ⟨a :: l, rfl, fun x hx => ?_⟩
  rcases List.mem_cons.1 hx with rfl | hx
  ·have e1 : IntKind.u8.min = 0 := by decide
   have e2 : IntKind.u8.max = 255 := by decide
   simp [Lit.wf, e1, e2] at ha; omega
  ·exact hl x hx
theorem typed_byterow {xs : List A} (h : TypedL reachBytes [.row 1 1 [.int .u8]] xs) : ∃ (rs : List Int), xs = [.row false 1 (rs.map bv)] ∧ rs.length < 140737488355328 ∧ ∀ x ∈ rs, 0 ≤ x ∧ x ≤ 255 := by
 rw [TypedL] at h
 obtain ⟨_, _, rfl, h3, h⟩ := h
 rw [TypedL] at h
 subst h
 simp only [Typed] at h3
 obtain ⟨es, rfl, hb, he⟩ := h3
 obtain ⟨l, rfl, hl⟩ := typed_bytes he
 refine ⟨l, rfl, ?_, hl⟩
 have : reachBytes = 140737488351232 := rfl
 simp only [List.length_map] at hb
 omega
theorem one_rel {w : World} {S : Nat → Prop} {φ : List (Option Loc)} {x : A} {v : Value} {f : List Nat} (h : RelL w S φ [x] [v] f) : Rel w S φ x v f := by
 cases h with
 | cons h1 h2 => cases h2; simpa using h1
end Go.Proofs.Ytimgfinlbhodhaa.Ab
namespace Go.Proofs.Ytimgfinlbhodhaa.Ab
open Go
set_option linter.unusedVariables false
set_option linter.unusedSimpArgs false
structure PG where
 i : Int
 o : Int
 l : List I4
 deriving Inhabited, DecidableEq
structure LK where
 fr : Int
 ou : Int
 to : Int
 ip : Int
 tk : List Int
 deriving Inhabited, DecidableEq
structure AT where
 pc : Int
 rs : List Int
 deriving Inhabited, DecidableEq
def pv (p : PG) : List A := [.int .i64 p.i, .int .i64 p.o, .row false 4 (p.l.map insv)]
def opv (p : PG) : List A := [.int .i64 p.i, .int .i64 p.o, .row true 4 (p.l.map insv)]
def kv (x : LK) : List A := [.int .i64 x.fr, .int .i64 x.ou, .int .i64 x.to, .int .i64 x.ip, .row false 1 (x.tk.map iv)]
def okv (x : LK) : List A := [.int .i64 x.fr, .int .i64 x.ou, .int .i64 x.to, .int .i64 x.ip, .row true 1 (x.tk.map iv)]
def av (x : AT) : List A := [.int .i64 x.pc, .row false 1 (x.rs.map iv)]
def oav (x : AT) : List A := [.int .i64 x.pc, .row true 1 (x.rs.map iv)]
theorem pv_eq (p : PG) : pv p = [.int .i64 p.i, .int .i64 p.o, .row false 4 (p.l.map insv)] := rfl
theorem opv_eq (p : PG) : opv p = [.int .i64 p.i, .int .i64 p.o, .row true 4 (p.l.map insv)] := rfl
theorem kv_eq (x : LK) : kv x = [.int .i64 x.fr, .int .i64 x.ou, .int .i64 x.to, .int .i64 x.ip, .row false 1 (x.tk.map iv)] := rfl
theorem okv_eq (x : LK) : okv x = [.int .i64 x.fr, .int .i64 x.ou, .int .i64 x.to, .int .i64 x.ip, .row true 1 (x.tk.map iv)] := rfl
theorem av_eq (x : AT) : av x = [.int .i64 x.pc, .row false 1 (x.rs.map iv)] := rfl
theorem oav_eq (x : AT) : oav x = [.int .i64 x.pc, .row true 1 (x.rs.map iv)] := rfl
theorem roLL_to {α : Type} {f g : α → List A} (h : ∀ x, roL (f x) = g x) (l : List α) : roLL (l.map f) = l.map g := by
 rw [roLL_map, List.map_map]
 exact List.map_congr_left fun x _ => h x
theorem roLL_pv (l : List PG) : roLL (l.map pv) = l.map pv := roLL_to (fun x => by simp [pv, roL, ro, roLL_insv]) l
theorem roLL_opv (l : List PG) : roLL (l.map opv) = l.map pv := roLL_to (fun x => by simp [pv, opv, roL, ro, roLL_insv]) l
theorem roLL_kv (l : List LK) : roLL (l.map kv) = l.map kv := roLL_to (fun x => by simp [kv, roL, ro, roLL_iv]) l
theorem roLL_okv (l : List LK) : roLL (l.map okv) = l.map kv := roLL_to (fun x => by simp [kv, okv, roL, ro, roLL_iv]) l
theorem roLL_av (l : List AT) : roLL (l.map av) = l.map av := roLL_to (fun x => by simp [av, roL, ro, roLL_iv]) l
theorem roLL_oav (l : List AT) : roLL (l.map oav) = l.map av := roLL_to (fun x => by simp [av, oav, roL, ro, roLL_iv]) l
theorem pureLL_pv (l : List PG) : pureLL (l.map pv) = true := pureLL_all (fun x => by simp [pv, pureL, pureA]) l
theorem pureLL_opv (l : List PG) : pureLL (l.map opv) = true := pureLL_all (fun x => by simp [opv, pureL, pureA, pureLL_insv]) l
theorem pureLL_kv (l : List LK) : pureLL (l.map kv) = true := pureLL_all (fun x => by simp [kv, pureL, pureA]) l
theorem pureLL_okv (l : List LK) : pureLL (l.map okv) = true := pureLL_all (fun x => by simp [okv, pureL, pureA, pureLL_iv]) l
theorem pureLL_av (l : List AT) : pureLL (l.map av) = true := pureLL_all (fun x => by simp [av, pureL, pureA]) l
theorem pureLL_oav (l : List AT) : pureLL (l.map oav) = true := pureLL_all (fun x => by simp [oav, pureL, pureA, pureLL_iv]) l
theorem noLoanLL_opv (l : List PG) : noLoanLL (l.map opv) = true := noLoanLL_all (fun x => by simp [opv, noLoanL, noLoan, noLoanLL_insv]) l
theorem noLoanLL_okv (l : List LK) : noLoanLL (l.map okv) = true := noLoanLL_all (fun x => by simp [okv, noLoanL, noLoan, noLoanLL_iv]) l
theorem noLoanLL_oav (l : List AT) : noLoanLL (l.map oav) = true := noLoanLL_all (fun x => by simp [oav, noLoanL, noLoan, noLoanLL_iv]) l
theorem rnLL_pv (s : List Nat) (l : List PG) : rnLL s (l.map pv) = l.map pv := rnLL_pure (pureLL_pv l)
theorem rnLL_opv (s : List Nat) (l : List PG) : rnLL s (l.map opv) = l.map opv := rnLL_pure (pureLL_opv l)
theorem rnLL_kv (s : List Nat) (l : List LK) : rnLL s (l.map kv) = l.map kv := rnLL_pure (pureLL_kv l)
theorem rnLL_okv (s : List Nat) (l : List LK) : rnLL s (l.map okv) = l.map okv := rnLL_pure (pureLL_okv l)
theorem rnLL_oav (s : List Nat) (l : List AT) : rnLL s (l.map oav) = l.map oav := rnLL_pure (pureLL_oav l)
theorem refsLL_pv (l : List PG) : refsLL (l.map pv) = [] := refsLL_pure (pureLL_pv l)
theorem refsLL_opv (l : List PG) : refsLL (l.map opv) = [] := refsLL_pure (pureLL_opv l)
theorem refsLL_kv (l : List LK) : refsLL (l.map kv) = [] := refsLL_pure (pureLL_kv l)
theorem refsLL_okv (l : List LK) : refsLL (l.map okv) = [] := refsLL_pure (pureLL_okv l)
theorem refsLL_oav (l : List AT) : refsLL (l.map oav) = [] := refsLL_pure (pureLL_oav l)
theorem pv_inj {l l' : List PG} : l.map pv = l'.map pv ↔ l = l' := ⟨map_inj (fun x y h => by
 obtain ⟨a, b, c⟩ := x; obtain ⟨a', b', c'⟩ := y
 simpa [pv, insv_inj] using h), fun h => by rw [h]⟩
theorem kv_inj {l l' : List LK} : l.map kv = l'.map kv ↔ l = l' := ⟨map_inj (fun x y h => by
 obtain ⟨a, b, c, d, e⟩ := x; obtain ⟨a', b', c', d', e'⟩ := y
 simpa [kv, iv_inj] using h), fun h => by rw [h]⟩
theorem av_inj {l l' : List AT} : l.map av = l'.map av ↔ l = l' := ⟨map_inj (fun x y h => by
 obtain ⟨a, b⟩ := x; obtain ⟨a', b'⟩ := y
 simpa [av, iv_inj] using h), fun h => by rw [h]⟩
section
variable {c : Cx} {k : List It} {st st' : St} {α : Type}
theorem G.focusE [Inhabited α] (m j q : Nat) {sz sz' : Nat} {f : α → List A} {l : List α} {es' : List (List A)} (hm : st.heap[m]? = some (some (sz, l.map f))) (hj : j < l.length) (hq : (f (l.getD j default))[q]? = some (.row true sz' es'))
  (h : G c k (withH st ((st.heap.set m (some (sz, (l.map f).set j ((f (l.getD j default)).set q (.sl st.heap.length 0 es'.length))))) ++ [some (sz', es')]))) : G c k st :=
 G.focus m j q (e := f (l.getD j default)) hm (by simp [hj]) hq h
theorem unf_drop (es : List (List A)) : (es.drop 0).take es.length = es := by rw [List.drop_zero]; exact List.take_of_length_le (by simp)
theorem G.unfocusE (m j q n : Nat) {sz sz' len : Nat} {f : α → List A} {l : List α} {es' : List (List A)} {e : List A} (x : α) (hm : st.heap[m]? = some (some (sz, (l.map f).set j e))) (hj : j < l.length) (he : e[q]? = some (.sl n 0 len))
  (hn : st.heap[n]? = some (some (sz', es'))) (hne : m ≠ n) (hl : len = es'.length) (hp : pureLL es' = true) (hx : e.set q (.row true sz' es') = f x)
  (h : G c k (withH st ((st.heap.set n none).set m (some (sz, (l.set j x).map f))))) : G c k st := by
 subst hl
 refine G.unfocus m j q n (e := e) hm (by simp [hj]) he hn hne (by simp) hp ?_
 rw [unf_drop, List.set_set, hx, ← List.map_set]
 exact h
theorem G.lastE (m q n : Nat) {sz sz' len : Nat} {f : α → List A} {l : List α} {es' : List (List A)} {e : List A} (x : α) (hm : st.heap[m]? = some (some (sz, l.map f ++ [e]))) (he : e[q]? = some (.sl n 0 len))
  (hn : st.heap[n]? = some (some (sz', es'))) (hne : m ≠ n) (hl : len = es'.length) (hp : pureLL es' = true) (hx : e.set q (.row true sz' es') = f x)
  (h : G c k (withH st ((st.heap.set n none).set m (some (sz, (l ++ [x]).map f))))) : G c k st := by
 subst hl
 refine G.unfocus m l.length q n (e := e) hm (by simp) he hn hne (by simp) hp ?_
 have e2 : (l.map f ++ [e]).set l.length (e.set q (.row true sz' ((es'.drop 0).take es'.length))) = (l ++ [x]).map f := by
  rw [unf_drop, hx, List.set_append_right _ _ (by simp)]
  simp
 rw [e2]
 exact h
end
section
variable {α : Type}
def gtot (f : α → Nat) (rs : List α) : Nat := (rs.map f).sum
theorem gtot_nil (f : α → Nat) : gtot f [] = 0 := rfl
theorem gtot_cons (f : α → Nat) (r : α) (rs : List α) : gtot f (r :: rs) = f r + gtot f rs := by simp [gtot]
theorem gtot_app (f : α → Nat) (a b : List α) : gtot f (a ++ b) = gtot f a + gtot f b := by simp [gtot]
theorem gtot_succ [Inhabited α] {f : α → Nat} {rs : List α} {j : Nat} (h : j < rs.length) : gtot f (rs.take (j + 1)) = gtot f (rs.take j) + f (rs.getD j default) := by
 rw [List.take_succ_eq_append_getElem h, gtot_app, gtot_cons, gtot_nil]
 simp [h]
end
end Go.Proofs.Ytimgfinlbhodhaa.Ab
namespace Go.Proofs.Ytimgfinlbhodhaa.Ab
open Go
variable {c : Cx} {k k' : List It} {st st' st'' : St}
theorem G.viaX (h1 : G c k' st' → G c k st) (h2 : G c k' st') : G c k st := h1 h2
theorem G.viaP {Q : Prop} (h1 : (Q → G c k' st') → G c k st) (h2 : Q → G c k' st') : G c k st := h1 h2
theorem G.meet (h : G c k st'') (e : st = st'') : G c k st := by rw [e]; exact h
end Go.Proofs.Ytimgfinlbhodhaa.Ab
namespace Go.Proofs.Ytimgfinlbhodhaa.Ab
open Go
set_option linter.unusedVariables false
set_option linter.unusedSimpArgs false
section
variable {c : Cx} {k : List It} {st st' : St}
theorem G.permM (live sel : List Nat) (hs : sel.Nodup) (hφ : ∀ m < c.φ0.length, sel[m]? = some m) (he : (⟨live.map fun i => (i, rnA sel (look st.env i)), rnH st.heap sel, st.n⟩ : St) = st') (h : G c k st') : G c k st := by
 subst he
 intro a w φ fs hr hb
 obtain ⟨fr, g1, g2, g3⟩ := rn_heap sel sel hr.heap hr.nodup hs
 refine h a w (pickφ φ sel) fr ⟨hr.defers, hr.size, fun i => ?_, g1.sub (fun b hb => hb.imp id (g3 b)), g2, fun b hb => hr.apart b (g3 b hb), hr.low⟩ ⟨hb.1, fun b hb2 => hb.2.1 b (g3 b hb2), fun m l hm => ?_⟩
 ·have : Rel w (Sof c.S0 fs) (pickφ φ sel) (look (live.map fun j => (j, rnA sel (look st.env j))) i) (a.tmps.getD i undef) [] := by
   rcases look_map (f := rnA sel) live st.env i with e | e
   ·rw [e]; exact .any _
   ·rw [e]; exact rnA_rel (hr.env i)
  exact this.frame (Fr.refl (fun _ => False) w) (fun b hb => .inl (hb.imp id (g3 b))) (fun _ h => h.elim) (Ext.refl _) (fun _ _ h => h)
 ·have h1 := hφ m (List.getElem?_eq_some_iff.1 hm).1
  have h2 := hb.2.2 m l hm
  simp only [pickφ, List.getElem?_map, h1, Option.map_some, List.getD_eq_getElem?_getD, h2, Option.getD_some]
end
end Go.Proofs.Ytimgfinlbhodhaa.Ab
namespace Go.Proofs.Ytimgfinlbhodhaa.Ab
open Go
set_option linter.unusedVariables false
set_option linter.unusedSimpArgs false
def vwSlD (h : Heap) (m lo len : Nat) : A :=
 match h[m]? with
 | some (some (sz, es)) => if lo + len ≤ es.length ∧ ((es.drop lo).take len).all (fun e => e.all notOwn) = true then .row false sz (((es.drop lo).take len).map (vwL h)) else .any
 | _ => .any
def dv (h : Heap) : A → A
 | .sl m lo len => vwSlD h m lo len
 | x => vw h x
def dvL (h : Heap) (D : List Bool) (xs : List A) : List A := (xs.zip D).map fun p => if p.2 then dv h p.1 else vw h p.1
theorem vwL_app (h : Heap) : ∀ a b : List A, vwL h (a ++ b) = vwL h a ++ vwL h b
 | [], b => rfl
 | x :: a, b => by simp only [List.cons_append, vwL, vwL_app h a b]
theorem vwL_flat (h : Heap) : ∀ es : List (List A), (es.map (vwL h)).flatten = vwL h es.flatten
 | [] => rfl
 | e :: es => by rw [List.map_cons, List.flatten_cons, List.flatten_cons, vwL_app, vwL_flat h es]
theorem vwL_len (h : Heap) : ∀ a : List A, (vwL h a).length = a.length
 | [] => rfl
 | x :: a => by simp only [vwL, List.length_cons, vwL_len h a]
section
variable {S0 : Nat → Prop} {st : St} {a : Act} {w : World} {φ : List (Option Loc)} {fs : List Nat}
theorem vwSlD_rel (h : SRel S0 st a w φ fs) {m lo len : Nat} {v : Value} (hv : Rel w (Sof S0 fs) φ (.sl m lo len) v []) : Rel w S0 [] (vwSlD st.heap m lo len) v [] := by
  unfold vwSlD
  split
  · rename_i sz es hm
    split
    · rename_i hle0
      obtain ⟨hle, hno⟩ := hle0
      obtain ⟨ad, c, rfl, hc, l, hml, had⟩ := sl_form hv
      have hl : (((es.drop lo).take len).map (vwL st.heap)).length = len := by simp; omega
      by_cases hz : len = 0
      · subst hz
        have : (es.drop lo).take 0 = [] := by simp
        rw [this]
        exact .ro0 _ _ _
      · have hne : es ≠ [] := by rintro rfl; simp at hle; omega
        obtain ⟨l', arr, ty, vs, f0, q1, q2, q3, q4, q4', q5, q6, q7, q8⟩ := blkGet h hm hne
        have := loc_eq hml q1
        subst this
        obtain ⟨g1, g2, g3, e1, _, r2, _⟩ := q6.window (lo * sz) (len * sz)
        have hfl : (es.flatten.drop (lo * sz)).take (len * sz) = ((es.drop lo).take len).flatten := by rw [flat_drop q5, flat_take (uni_drop q5 lo)]
        rw [hfl] at r2
        have hnil : g2 = [] := notOwn_nil r2 (by
          rw [List.all_eq_true] at hno ⊢
          intro x hx
          obtain ⟨e, he, hx⟩ := List.mem_flatten.1 hx
          exact List.all_eq_true.1 (hno e he) x hx)
        subst hnil
        rw [had (by omega)]
        have key : Rel w S0 [] (.row false sz (((es.drop lo).take len).map (vwL st.heap))) (.slice (some ⟨l'.g, l'.off + lo * l'.sz, none⟩) (((es.drop lo).take len).map (vwL st.heap)).length c) [] := by
         refine .ro (ad := ⟨l'.g, l'.off + lo * l'.sz, none⟩) (fun e he => ?_) (by rw [vwL_flat]; exact vwL_rel h r2) (fun k u hk => ⟨?_, h.apart _ q4⟩) (by rw [hl]; exact hc)
         · obtain ⟨x, hx, rfl⟩ := List.mem_map.1 he
           rw [vwL_len]
           exact uni_take (uni_drop q5 lo) len x hx
         · have hk2 : vs[lo * sz + k]? = some u := by
             by_cases hlt : k < len * sz
             · rwa [List.getElem?_take_of_lt hlt, List.getElem?_drop] at hk
             · rw [List.getElem?_eq_none (by simp; omega)] at hk; cases hk
           rw [add_mk, q2]
           simp only [World.cell?, q3]
           rw [← q7 _ _ hk2]
           simp [Nat.add_assoc]
        rw [hl] at key
        exact key
    · exact .any _
  · exact .any _
theorem dv_rel (h : SRel S0 st a w φ fs) {x : A} {v : Value} (hv : Rel w (Sof S0 fs) φ x v []) : Rel w S0 [] (dv st.heap x) v [] := by
 cases x with
 | sl m lo len => exact vwSlD_rel h hv
 | _ => exact vw_rel h hv
theorem dvL_rel (h : SRel S0 st a w φ fs) : ∀ {D : List Bool} {xs : List A} {vs : List Value}, D.length = xs.length → RelL w (Sof S0 fs) φ xs vs [] → RelL w S0 [] (dvL st.heap D xs) vs []
 | D, [], vs, hD, hv => by cases hv; exact .nil
 | [], x :: xs, vs, hD, hv => by simp at hD
 | b :: D, x :: xs, vs, hD, hv => by
  generalize hf : ([] : List Nat) = f at hv
  cases hv with
  | cons h1 h2 =>
   obtain ⟨e1, e2⟩ := List.append_eq_nil_iff.1 hf.symm
   subst e1 e2
   refine .cons (f := []) (fs := []) ?_ (dvL_rel h (by simpa using hD) h2)
   cases b with
   | true => exact dv_rel h h1
   | false => exact vw_rel h h1
end
section
variable {c : Cx} {k : List It} {st st' : St} {all : Array Oper} {o : Oper} {l : List Oper}
theorem G.callD {fid : FuncId} {caps : List A} {fo : Operand} {args : Array Operand} {at_ : Array TypeId} {vargs : List A} {res : A} (D : List Bool) (he : Enters c.P fid)
  (ho : o.op = .call { callee := .value fo, args := args, argTypes := at_ }) (hg : o.guard = none) (hf : ev st.env fo = .fn fid caps) (hD : D.length = (callArgs st.env args caps).length)
  (hva : dvL st.heap D (callArgs st.env args caps) = vargs) (hc : AC c.P fid vargs res) (hl : noLoan res = true)
  (hp : (withH st (st.heap ++ (matA st.heap.length res).2)).putO o.dst (matA st.heap.length res).1 = some st') (h : G c (.ops all l :: k) st') : G c (.ops all (o :: l) :: k) st := by
 intro a w φ fs hr hb
 have hfv := ev_rel hr fo
 rw [hf] at hfv
 generalize hfe : a.eval fo = fv at hfv
 cases hfv with
 | fn hcaps =>
  rename_i cvs
  have hargs := (args_rel hr args.toList).append (f := []) (g := []) hcaps
  have hview := dvL_rel hr hD hargs
  have hcall := hc w c.S0 (args.toList.map a.eval ++ cvs) hr.low (by rw [← hva]; exact hview)
  show wpList c.P all (cont c.P k c.Q) (o :: l) a w
  simp only [wpList]
  rw [if_pos (by simp [Region.wanted, hg])]
  refine .inl ?_
  unfold Oper.wp
  have hrun : (execOp a.eval o).run c.P w = .ok (.enter fid (args.toList.map a.eval ++ cvs).toArray) w := by
   unfold execOp
   rw [ho]
   simp only [resolve, hfe, Deferred.ofValue, invoke, Sem.run_bind, Sem.run_pure, Result.andThen_ok]
   have e : (#[] ++ Array.map a.eval args ++ cvs.toArray : Array Value) = (args.toList.map a.eval ++ cvs).toArray := by apply Array.ext'; simp
   rw [e]
   exact he _ w
  rw [hrun]
  simp only [Oper.upon]
  refine hcall.mono ?_
  rintro e w' ⟨v, fb, rfl, h1, h2, h3, h4⟩
  obtain ⟨φ', fs', g1, g2, g3, g4⟩ := hr.called h1 h2 h3 h4 (.inl hl)
  exact h _ w' φ' fs' (g1.putO g4 hp) (hb.step h4 (fun _ h => h.elim) g2 g3)
end
end Go.Proofs.Ytimgfinlbhodhaa.Ab
