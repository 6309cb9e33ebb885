/- A callee that is handed a pointer into a block that leads to other blocks: a deep view. Drawn regions with such a call. -/
import Derived.Test.YtimgfinlbhodhaaAbOrdM
import Derived.Test.YtimgfinlbhodhaaAbGrow
namespace Go.Proofs.Ytimgfinlbhodhaa.Ab
open Go
set_option linter.unusedVariables false
set_option linter.unusedSimpArgs false
def vwPtrD (h : Heap) (m i j : Nat) : A :=
 match h[m]? with
 | some (some (sz, es)) => if es.isEmpty = false ∧ es.all (fun e => e.all notOwn) = true then .rp sz (es.map (vwL h)) i j else .any
 | _ => .any
def dv2 (h : Heap) : A → A
 | .ptr m i j => vwPtrD h m i j
 | x => dv h x
def dvL2 (h : Heap) (D : List Bool) (xs : List A) : List A := (xs.zip D).map fun p => if p.2 then dv2 h p.1 else vw h p.1
section
variable {S0 : Nat → Prop} {st : St} {a : Act} {w : World} {φ : List (Option Loc)} {fs : List Nat}
theorem vwPtrD_rel (h : SRel S0 st a w φ fs) {m i j : Nat} {v : Value} (hv : Rel w (Sof S0 fs) φ (.ptr m i j) v []) : Rel w S0 [] (vwPtrD st.heap m i j) v [] := by
 unfold vwPtrD
 split
 ·rename_i sz es hm
  split
  ·rename_i hc
   obtain ⟨hne, hno⟩ := hc
   obtain ⟨l, arr, ty, vs, f0, q1, q2, q3, q4, q4', q5, q6, q7, q8⟩ := blkGet h hm (by rintro rfl; simp at hne)
   have hnil : f0 = [] := notOwn_nil q6 (by
    rw [List.all_eq_true] at hno ⊢
    intro x hx
    obtain ⟨e, he, hx⟩ := List.mem_flatten.1 hx
    exact List.all_eq_true.1 (hno e he) x hx)
   subst hnil
   cases hv with
   | ptr hml =>
    rename_i l2
    have := loc_eq q1 hml
    subst this
    have := Rel.rp (w := w) (S := S0) (φ := []) (es := es.map (vwL st.heap)) (ad := ⟨l2.g, l2.off, none⟩) (i := i) (j := j) (sz := sz) (vs := vs) (fun e he => by
      obtain ⟨x, hx, rfl⟩ := List.mem_map.1 he
      rw [vwL_len]
      exact q5 x hx) (by rw [vwL_flat]; exact vwL_rel h q6) (fun k u hk => ⟨by rw [add_mk]; simp only [World.cell?, q3]; rw [← q7 _ _ hk]; simp, h.apart _ q4⟩)
    rw [add_mk, ← q2] at this
    rw [← q2]
    exact this
  ·exact .any _
 ·exact .any _
theorem dv2_rel (h : SRel S0 st a w φ fs) {x : A} {v : Value} (hv : Rel w (Sof S0 fs) φ x v []) : Rel w S0 [] (dv2 st.heap x) v [] := by
 cases x with
 | ptr m i j => exact vwPtrD_rel h hv
 | _ => exact dv_rel h hv
theorem dvL2_rel (h : SRel S0 st a w φ fs) : ∀ {D : List Bool} {xs : List A} {vs : List Value}, D.length = xs.length → RelL w (Sof S0 fs) φ xs vs [] → RelL w S0 [] (dvL2 st.heap D xs) vs []
 | D, [], vs, hD, hv => by cases hv; exact .nil
 | [], x :: xs, vs, hD, hv => by simp at hD
 | b :: D, x :: xs, vs, hD, hv => by
  generalize hf : ([] : List Nat) = f at hv
  cases hv with
  | cons h1 h2 =>
   obtain ⟨e1, e2⟩ := List.append_eq_nil_iff.1 hf.symm
   subst e1 e2
   refine .cons (f := []) (fs := []) ?_ (dvL2_rel h (by simpa using hD) h2)
   cases b with
   | true => exact dv2_rel h h1
   | false => exact vw_rel h h1
end
section
variable {c : Cx} {k : List It} {st st' sF : St} {all : Array Oper} {o om : Oper} {l : List Oper} {K : Kn}
theorem G.callD2 {fid : FuncId} {caps : List A} {fo : Operand} {args : Array Operand} {at_ : Array TypeId} {vargs : List A} {res : A} (D : List Bool) (he : Enters c.P fid)
  (ho : o.op = .call { callee := .value fo, args := args, argTypes := at_ }) (hg : o.guard = none) (hf : ev st.env fo = .fn fid caps) (hD : D.length = (callArgs st.env args caps).length)
  (hva : dvL2 st.heap D (callArgs st.env args caps) = vargs) (hc : AC c.P fid vargs res) (hl : noLoan res = true)
  (hp : (withH st (st.heap ++ (matA st.heap.length res).2)).putO o.dst (matA st.heap.length res).1 = some st') (h : G c (.ops all l :: k) st') : G c (.ops all (o :: l) :: k) st := by
 intro a w φ fs hr hb
 have hfv := ev_rel hr fo
 rw [hf] at hfv
 generalize hfe : a.eval fo = fv at hfv
 cases hfv with
 | fn hcaps =>
  rename_i cvs
  have hargs := (args_rel hr args.toList).append (f := []) (g := []) hcaps
  have hview := dvL2_rel hr hD hargs
  have hcall := hc w c.S0 (args.toList.map a.eval ++ cvs) hr.low (by rw [← hva]; exact hview)
  show wpList c.P all (cont c.P k c.Q) (o :: l) a w
  simp only [wpList]
  rw [if_pos (by simp [Region.wanted, hg])]
  refine .inl ?_
  unfold Oper.wp
  have hrun : (execOp a.eval o).run c.P w = .ok (.enter fid (args.toList.map a.eval ++ cvs).toArray) w := by
   unfold execOp
   rw [ho]
   simp only [resolve, hfe, Deferred.ofValue, invoke, Sem.run_bind, Sem.run_pure, Result.andThen_ok]
   have e : (#[] ++ Array.map a.eval args ++ cvs.toArray : Array Value) = (args.toList.map a.eval ++ cvs).toArray := by apply Array.ext'; simp
   rw [e]
   exact he _ w
  rw [hrun]
  simp only [Oper.upon]
  refine hcall.mono ?_
  rintro e w' ⟨v, fb, rfl, h1, h2, h3, h4⟩
  obtain ⟨φ', fs', g1, g2, g3, g4⟩ := hr.called h1 h2 h3 h4 (.inl hl)
  exact h _ w' φ' fs' (g1.putO g4 hp) (hb.step h4 (fun _ h => h.elim) g2 g3)
theorem G.eqNN {t t' e : Nat} {x y : Operand} (hT : c.T.ok c.P) (hg : o.guard = none) (ho : o.op = .binOp .eql t x y t') (hk : (c.T t).map TI.kind = some (TK.slice e)) (hx : ev st.env x = .nils) (hy : ev st.env y = .nils)
  (hp : st.putO o.dst (.bool true) = some st') (h : G c (.ops all l :: k) st') : G c (.ops all (o :: l) :: k) st := by
 refine G.opV hg (fun a w φ fs hr => ?_) hp h
 obtain ⟨it, hit, hkk, hft⟩ := kind_some hT hk
 have hu := under_slice hft hkk
 have rx := ev_rel hr x
 have ry := ev_rel hr y
 rw [hx] at rx
 rw [hy] at ry
 generalize hxv : a.eval x = xv at rx
 generalize hyv : a.eval y = yv at ry
 cases rx
 cases ry
 refine ⟨.bool true, ?_, .bool _⟩
 unfold execOp
 rw [ho]
 simp only [hxv, hyv, Sem.run_bind]
 have hq : (eqGuard .eql t x y (.slice none 0 0) (.slice none 0 0)).run c.P w = .ok () w := rfl
 simp only [hq, Result.andThen_ok]
 have : (binOp .eql t (.slice none 0 0) (.slice none 0 0)).run c.P w = .ok (.bool true) w := by
  simp [binOp, run_equal_slice_nil w t e none 0 0 hu]
 rw [this]
 rfl
theorem G.drawD (hmx : c.P.follows .mixedOrders = true) (hT : c.T.ok c.P) (hK : K.ok c.P) {id : Nat} (m : Nat) (R : List Nat) (D : List Bool) (hom : all[m]? = some om) (hchk : mChk all R m = true) {nR : Nat} (hnR : (takePk all R).length = nR)
  {fid : FuncId} {caps : List A} {fo : Operand} {args : Array Operand} {at_ : Array TypeId} {res : A} {vargs : List A} (he : Enters c.P fid) (hc : AC c.P fid vargs res)
  (hrun : Ab.runP c.T K all nR st (takePk all R) = (sF, []))
  (ho : om.op = .call { callee := .value fo, args := args, argTypes := at_ }) (hg : om.guard = none) (hf : ∀ env, ev env fo = .fn fid caps)
  (hva : dvL2 st.heap D (callArgs sF.env args caps) = vargs) (hD : D.length = (callArgs sF.env args caps).length) (hl : noLoan res = true) (hma : matA st.heap.length res = (res, [])) (hd : ∀ e, om.dst = some e → e < st.n)
  (hr0 : rdAll c.T K sF.env st.heap (takePk all R))
  {n : Nat} (hn : n + 1 = all.size) {st1 : St} (hst1 : (⟨putE st.env om.dst res, st.heap, st.n⟩ : St) = st1) (h : AnyL c K k all [m] n st1) : G c (.code (.region id all true) :: k) st := by
 subst hst1 hnR
 intro a w φ fs hr hb
 refine wp_region_any hmx ?_
 suffices hsf : wpAny c.P .any all (cont c.P k c.Q) (n + 1) (Array.replicate all.size false) a { w with drawn := w.drawn + 1 } by
  rw [hn] at hsf
  exact hsf
 have hf0 : Fr (fun _ => False) w { w with drawn := w.drawn + 1 } := ⟨rfl, rfl, rfl, Nat.le_refl _, fun _ _ _ => rfl⟩
 refine drawM_core (env0 := st.env) (envF := sF.env) (h0 := st.heap) (n := st.n) (res := res) hT hK hom hchk hr0 hr0 ?_ n _ st.env (by simp) ?_ ?_ ?_ ?_ a { w with drawn := w.drawn + 1 } φ fs ?_ ?_
 ·intro env hops k' hk
  have hca : callArgs env args caps = callArgs sF.env args caps := by
   have : args.toList.map (ev env) = args.toList.map (ev sF.env) := List.map_congr_left fun y hy => hops y (by rw [ho]; simp only [Op.operands, Call.operands]; simp; exact .inr (by simpa using hy))
   unfold callArgs
   rw [this]
  refine G.callD2 D he ho hg (hf _) (by rw [hca]; exact hD) (by show dvL2 st.heap D (callArgs env args caps) = vargs; rw [hca]; exact hva) hc hl ?_ hk
  show (withH _ (st.heap ++ (matA st.heap.length res).2)).putO om.dst (matA st.heap.length res).1 = _
  rw [hma]
  simp only [List.append_nil]
  exact putO_iff.2 ⟨hd, rfl⟩
 ·intro t
  by_cases ht : ∃ p ∈ takePk all R, p.2.dst = some t
  ·obtain ⟨p, hp, hpd⟩ := ht
   obtain ⟨i, hi, ho2⟩ := List.mem_filterMap.1 hp
   obtain ⟨o, hoi, rfl⟩ := Option.map_eq_some_iff.1 ho2
   refine .inr ⟨rfl, i, hi, by rw [dst_eq hoi]; exact hpd, by simp [Array.getD_eq_getD_getElem?, Array.getElem?_replicate]; split <;> rfl⟩
  ·exact .inl (run_out _ hrun t (fun p hp hpd => ht ⟨p, hp, hpd⟩)).symm
 ·simp [Array.getD_eq_getD_getElem?, Array.getElem?_replicate]; split <;> rfl
 ·intro j _; simp [Array.getD_eq_getD_getElem?, Array.getElem?_replicate]; split <;> rfl
 ·exact h
 ·exact ⟨hr.defers, hr.size, fun i => (hr.env i).frame hf0 (fun b hb => .inl hb) (fun _ h => h.elim) (Ext.refl _) (by simp), hr.heap.frame hf0 (fun b hb => .inl hb) (fun _ h => h.elim) (Ext.refl _) (fun _ _ h => h), hr.nodup, hr.apart, hr.low⟩
 ·exact ⟨hb.1.trans (T' := fun _ => False) ⟨rfl, rfl, rfl, Nat.le_refl _, fun _ _ _ => rfl⟩ (fun _ h => h.elim), hb.2.1, hb.2.2⟩
end
end Go.Proofs.Ytimgfinlbhodhaa.Ab
