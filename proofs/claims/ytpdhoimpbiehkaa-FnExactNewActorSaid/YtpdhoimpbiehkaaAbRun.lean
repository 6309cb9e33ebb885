/- Many operations at once: what is known of the functions that are called, and operations that are guarded. -/
import Derived.Test.YtpdhoimpbiehkaaAbMach3
namespace Go.Proofs.Ytpdhoimpbiehkaa.Ab
open Go
set_option linter.unusedVariables false
set_option linter.unusedSimpArgs false

/-! ### What is known of the functions that are called -/
def Kn := FuncId → List A → Option A
def Kn.ok (P : Program) (K : Kn) : Prop := ∀ f args r, K f args = some r → Enters P f ∧ AC P f args r
def KOk (P : Program) (x : FuncId × (List A → Option A)) : Prop := Enters P x.1 ∧ ∀ args r, x.2 args = some r → AC P x.1 args r
def kof : List (FuncId × (List A → Option A)) → Kn
  | [], _, _ => none
  | x :: r, f, args => if Nat.beq f x.1 then x.2 args else kof r f args
theorem kof_nil (P : Program) : Kn.ok P (kof []) := fun f args r h => by simp [kof] at h
theorem kof_cons {P : Program} {x : FuncId × (List A → Option A)} {l : List (FuncId × (List A → Option A))} (hx : KOk P x) (hl : Kn.ok P (kof l)) : Kn.ok P (kof (x :: l)) := by
  intro f args r h
  simp only [kof] at h
  split at h
  · rename_i e
    rw [Nat.eq_of_beq_eq_true e]
    exact ⟨hx.1, hx.2 args r h⟩
  · exact hl f args r h

mutual
theorem vw_pure {h : Heap} {x : A} (hp : pureA x = true) (hn : noRef x = true) : vw h x = x := by
  cases x with
  | row own sz es => cases own <;> simp_all [noRef, vw]
  | agg cs => simp only [vw, noRef, pureA] at *; rw [vwL_pure hp hn]
  | tup cs => simp only [vw, noRef, pureA] at *; rw [vwL_pure hp hn]
  | fn f cs => simp only [vw, noRef, pureA] at *; rw [vwL_pure hp hn]
  | box cs => simp [noRef] at hn
  | sl m lo len => simp [noRef] at hn
  | ptr m i j => simp [noRef] at hn
  | any => rfl
  | int k n => rfl
  | bool b => rfl
  | str s => rfl
  | nils => rfl
  | nilp => rfl
  | rp sz es i j => rfl
theorem vwL_pure {h : Heap} {xs : List A} (hp : pureL xs = true) (hn : noRefL xs = true) : vwL h xs = xs := by
  cases xs with
  | nil => rfl
  | cons x xs => simp only [pureL, noRefL, Bool.and_eq_true, vwL] at *; rw [vw_pure hp.1 hn.1, vwL_pure hp.2 hn.2]
end

/-- What a call hands back. -/
def callV (K : Kn) (st : St) (o : Oper) : Option A :=
  match o.op with
  | .call c => match c.callee with
    | .value fo => match ev st.env fo with
      | .fn fid caps => match K fid (vwL st.heap (callArgs st.env c.args caps)) with
        | some res => if noLoan res || (pureL (callArgs st.env c.args caps) && noRefL (callArgs st.env c.args caps)) then some res else none
        | none => none
      | _ => none
    | _ => none
  | _ => none
def step2 (T : Tab) (K : Kn) (st : St) (o : Oper) : Option St :=
  match step1 T st o with
  | some st' => some st'
  | none => match callV K st o with
    | some res => (withH st (st.heap ++ (matA st.heap.length res).2)).putO o.dst (matA st.heap.length res).1
    | none => none
/-- The value of an operation that leaves the abstract heap alone. -/
def pval (T : Tab) (K : Kn) (st : St) (o : Oper) : Option A :=
  match aval1 T st.env st.heap o.op with
  | some x => some x
  | none => match callV K st o with
    | some res => match (matA st.heap.length res).2 with
      | [] => some (matA st.heap.length res).1
      | _ => none
    | none => none

/-- Operations, told in a way that does not depend on what comes behind them. -/
def Does (c : Cx) (all : Array Oper) (o : Oper) (st st' : St) : Prop :=
  ∀ (K : Act → World → Prop) (Q : Exit → Act → World → Prop) a w φ fs, SRel c.S0 st a w φ fs → Bnd c w φ fs → (∀ (v : Value) w' φ' fs', SRel c.S0 st' (a.put o.dst v) w' φ' fs' → Bnd c w' φ' fs' → K (a.put o.dst v) w') → o.wp c.P a w K Q

section
variable {c : Cx} {k : List It} {st st' : St} {all : Array Oper} {o : Oper} {l l' : List Oper}
theorem step1_does (hT : c.T.ok c.P) (hs : step1 c.T st o = some st') : Does c all o st st' := by
  intro K Q a w φ fs hr hb hk
  obtain ⟨nx, w', φ', fs', v, h1, h2, h3, h4, h5, h6⟩ := step1_run hT hr hs
  unfold Oper.wp
  rw [h1]
  have := hk v w' φ' fs' h3 (hb.step h4 (fun _ h => h) h5 h6)
  rcases h2 with rfl | ⟨rfl, rfl⟩
  · exact this
  · exact this
theorem call_does {K : Kn} (hK : K.ok c.P) {res : A} (hv : callV K st o = some res) {st' : St} (hp : (withH st (st.heap ++ (matA st.heap.length res).2)).putO o.dst (matA st.heap.length res).1 = some st') : Does c all o st st' := by
  intro Kc Q a w φ fs hr hb hk
  unfold callV at hv
  split at hv
  · rename_i cl hop
    obtain ⟨callee, args, at_⟩ := cl
    simp only at hv
    split at hv
    · rename_i fo
      split at hv
      · rename_i fid caps hf
        split at hv
        · rename_i res' hkv
          split at hv
          · rename_i hcond
            injection hv with hv
            subst hv
            obtain ⟨he, hc⟩ := hK _ _ _ hkv
            have hfv := ev_rel hr fo
            rw [hf] at hfv
            generalize hfe : a.eval fo = fv at hfv
            cases hfv with
            | fn hcaps =>
              rename_i cvs
              have hargs : RelL w (Sof c.S0 fs) φ (callArgs st.env args caps) (args.toList.map a.eval ++ cvs) [] := (args_rel hr args.toList).append (f := []) (g := []) hcaps
              have hrun : (execOp a.eval o).run c.P w = .ok (.enter fid (args.toList.map a.eval ++ cvs).toArray) w := by
                unfold execOp
                rw [hop]
                simp only [resolve, hfe, Deferred.ofValue, invoke, Sem.run_bind, Sem.run_pure, Result.andThen_ok]
                have e : (#[] ++ Array.map a.eval args ++ cvs.toArray : Array Value) = (args.toList.map a.eval ++ cvs).toArray := by apply Array.ext'; simp
                rw [e]
                exact he _ w
              unfold Oper.wp
              rw [hrun]
              simp only [Oper.upon]
              have fin : ∀ v fb w', Rel w' (Sof c.S0 fb) [] res' v fb → fb.Nodup → (∀ b ∈ fb, w.heap.size ≤ b) → Fr (fun _ => False) w w' → (noLoan res' = true ∨ Rel w' (Sof (Sof c.S0 fs) fb) [] res' v fb) → Kc (a.put o.dst v) w' := by
                intro v fb w' h1 h2 h3 h4 h5
                obtain ⟨φ', fs', g1, g2, g3, g4⟩ := hr.called h1 h2 h3 h4 h5
                exact hk v w' φ' fs' (g1.putO g4 hp) (hb.step h4 (fun _ h => h.elim) g2 g3)
              by_cases hl : noLoan res' = true
              · refine (hc w c.S0 _ hr.low (vwL_rel hr hargs)).mono ?_
                rintro e w' ⟨v, fb, rfl, h1, h2, h3, h4⟩
                exact fin v fb w' h1 h2 h3 h4 (.inl hl)
              · have hcond' : (pureL (callArgs st.env args caps) && noRefL (callArgs st.env args caps)) = true := by
                  cases hq : noLoan res' with
                  | true => exact absurd hq hl
                  | false => rw [hq] at hcond; simpa using hcond
                simp only [Bool.and_eq_true] at hcond'
                have hpure := pureL_rel hcond'.1 hargs
                rw [vwL_pure hcond'.1 hcond'.2] at hc
                refine (hc w (Sof c.S0 fs) _ (fun b hb => hb.elim (hr.low b) (hr.heap.lt b)) hpure).mono ?_
                rintro e w' ⟨v, fb, rfl, h1, h2, h3, h4⟩
                have h0 : Rel w' (Sof c.S0 fb) [] res' v fb := h1.frame (Fr.refl (fun _ => False) w') (fun b hb => .inl (hb.imp .inl id)) (fun _ h => h.elim) (Ext.refl _) (fun _ _ h => h)
                exact fin v fb w' h0 h2 h3 h4 (.inr h1)
          · cases hv
        · cases hv
      · cases hv
    · cases hv
  · cases hv
theorem step2_does {K : Kn} (hT : c.T.ok c.P) (hK : K.ok c.P) (hs : step2 c.T K st o = some st') : Does c all o st st' := by
  unfold step2 at hs
  split at hs
  · rename_i st1 h1; injection hs with hs; subst hs; exact step1_does hT h1
  · split at hs
    · rename_i res hv; exact call_does hK hv hs
    · cases hs
theorem pval_does {K : Kn} (hT : c.T.ok c.P) (hK : K.ok c.P) {x : A} (hs : pval c.T K st o = some x) {st' : St} (hp : st.putO o.dst x = some st') : Does c all o st st' := by
  unfold pval at hs
  split at hs
  · rename_i y hy
    injection hs with hs
    subst hs
    intro Kc Q a w φ fs hr hb hk
    obtain ⟨v, h1, h2⟩ := aval1_run hT hr hy
    unfold Oper.wp
    rw [h1]
    exact hk v w φ fs (hr.putO h2 hp) hb
  · split at hs
    · rename_i res hv
      split at hs
      · rename_i hm
        injection hs with hs
        subst hs
        refine call_does hK hv ?_
        rw [hm]
        simpa [withH] using hp
      · cases hs
    · cases hs
end
end Go.Proofs.Ytpdhoimpbiehkaa.Ab
