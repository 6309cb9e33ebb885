/- A callee that is handed a row of one's own that leads to other blocks: a deep view. -/
import Derived.Test.YtmijpnghcggdfaaFwB
namespace Go.Proofs.Ytmijpnghcggdfaa.Ab
open Go
set_option linter.unusedVariables false
set_option linter.unusedSimpArgs false
def vwSlD (h : Heap) (m lo len : Nat) : A :=
  match h[m]? with
  | some (some (sz, es)) => if lo + len ≤ es.length ∧ ((es.drop lo).take len).all (fun e => e.all notOwn) = true then .row false sz (((es.drop lo).take len).map (vwL h)) else .any
  | _ => .any
def dv (h : Heap) : A → A
  | .sl m lo len => vwSlD h m lo len
  | x => vw h x
def dvL (h : Heap) (D : List Bool) (xs : List A) : List A := (xs.zip D).map fun p => if p.2 then dv h p.1 else vw h p.1
theorem vwL_app (h : Heap) : ∀ a b : List A, vwL h (a ++ b) = vwL h a ++ vwL h b
  | [], b => rfl
  | x :: a, b => by simp only [List.cons_append, vwL, vwL_app h a b]
theorem vwL_flat (h : Heap) : ∀ es : List (List A), (es.map (vwL h)).flatten = vwL h es.flatten
  | [] => rfl
  | e :: es => by rw [List.map_cons, List.flatten_cons, List.flatten_cons, vwL_app, vwL_flat h es]
theorem vwL_len (h : Heap) : ∀ a : List A, (vwL h a).length = a.length
  | [] => rfl
  | x :: a => by simp only [vwL, List.length_cons, vwL_len h a]
section
variable {S0 : Nat → Prop} {st : St} {a : Act} {w : World} {φ : List (Option Loc)} {fs : List Nat}
theorem vwSlD_rel (h : SRel S0 st a w φ fs) {m lo len : Nat} {v : Value} (hv : Rel w (Sof S0 fs) φ (.sl m lo len) v []) : Rel w S0 [] (vwSlD st.heap m lo len) v [] := by
  unfold vwSlD
  split
  · rename_i sz es hm
    split
    · rename_i hle0
      obtain ⟨hle, hno⟩ := hle0
      obtain ⟨ad, c, rfl, hc, l, hml, had⟩ := sl_form hv
      have hl : (((es.drop lo).take len).map (vwL st.heap)).length = len := by simp; omega
      by_cases hz : len = 0
      · subst hz
        have : (es.drop lo).take 0 = [] := by simp
        rw [this]
        exact .ro0 _ _ _
      · have hne : es ≠ [] := by rintro rfl; simp at hle; omega
        obtain ⟨l', arr, ty, vs, f0, q1, q2, q3, q4, q4', q5, q6, q7, q8⟩ := blkGet h hm hne
        have := loc_eq hml q1
        subst this
        obtain ⟨g1, g2, g3, e1, _, r2, _⟩ := q6.window (lo * sz) (len * sz)
        have hfl : (es.flatten.drop (lo * sz)).take (len * sz) = ((es.drop lo).take len).flatten := by rw [flat_drop q5, flat_take (uni_drop q5 lo)]
        rw [hfl] at r2
        have hnil : g2 = [] := notOwn_nil r2 (by
          rw [List.all_eq_true] at hno ⊢
          intro x hx
          obtain ⟨e, he, hx⟩ := List.mem_flatten.1 hx
          exact List.all_eq_true.1 (hno e he) x hx)
        subst hnil
        rw [had (by omega)]
        have key : Rel w S0 [] (.row false sz (((es.drop lo).take len).map (vwL st.heap))) (.slice (some ⟨l'.g, l'.off + lo * l'.sz, none⟩) (((es.drop lo).take len).map (vwL st.heap)).length c) [] := by
         refine .ro (ad := ⟨l'.g, l'.off + lo * l'.sz, none⟩) (fun e he => ?_) (by rw [vwL_flat]; exact vwL_rel h r2) (fun k u hk => ⟨?_, h.apart _ q4⟩) (by rw [hl]; exact hc)
         · obtain ⟨x, hx, rfl⟩ := List.mem_map.1 he
           rw [vwL_len]
           exact uni_take (uni_drop q5 lo) len x hx
         · have hk2 : vs[lo * sz + k]? = some u := by
             by_cases hlt : k < len * sz
             · rwa [List.getElem?_take_of_lt hlt, List.getElem?_drop] at hk
             · rw [List.getElem?_eq_none (by simp; omega)] at hk; cases hk
           rw [add_mk, q2]
           simp only [World.cell?, q3]
           rw [← q7 _ _ hk2]
           simp [Nat.add_assoc]
        rw [hl] at key
        exact key
    · exact .any _
  · exact .any _
theorem dv_rel (h : SRel S0 st a w φ fs) {x : A} {v : Value} (hv : Rel w (Sof S0 fs) φ x v []) : Rel w S0 [] (dv st.heap x) v [] := by
  cases x with
  | sl m lo len => exact vwSlD_rel h hv
  | _ => exact vw_rel h hv
theorem dvL_rel (h : SRel S0 st a w φ fs) : ∀ {D : List Bool} {xs : List A} {vs : List Value}, D.length = xs.length → RelL w (Sof S0 fs) φ xs vs [] → RelL w S0 [] (dvL st.heap D xs) vs []
  | D, [], vs, hD, hv => by cases hv; exact .nil
  | [], x :: xs, vs, hD, hv => by simp at hD
  | b :: D, x :: xs, vs, hD, hv => by
    generalize hf : ([] : List Nat) = f at hv
    cases hv with
    | cons h1 h2 =>
      obtain ⟨e1, e2⟩ := List.append_eq_nil_iff.1 hf.symm
      subst e1 e2
      refine .cons (f := []) (fs := []) ?_ (dvL_rel h (by simpa using hD) h2)
      cases b with
      | true => exact dv_rel h h1
      | false => exact vw_rel h h1
end
section
variable {c : Cx} {k : List It} {st st' : St} {all : Array Oper} {o : Oper} {l : List Oper}
theorem G.callD {fid : FuncId} {caps : List A} {fo : Operand} {args : Array Operand} {at_ : Array TypeId} {vargs : List A} {res : A} (D : List Bool) (he : Enters c.P fid)
    (ho : o.op = .call { callee := .value fo, args := args, argTypes := at_ }) (hg : o.guard = none) (hf : ev st.env fo = .fn fid caps) (hD : D.length = (callArgs st.env args caps).length)
    (hva : dvL st.heap D (callArgs st.env args caps) = vargs) (hc : AC c.P fid vargs res) (hl : noLoan res = true)
    (hp : (withH st (st.heap ++ (matA st.heap.length res).2)).putO o.dst (matA st.heap.length res).1 = some st') (h : G c (.ops all l :: k) st') : G c (.ops all (o :: l) :: k) st := by
  intro a w φ fs hr hb
  have hfv := ev_rel hr fo
  rw [hf] at hfv
  generalize hfe : a.eval fo = fv at hfv
  cases hfv with
  | fn hcaps =>
    rename_i cvs
    have hargs := (args_rel hr args.toList).append (f := []) (g := []) hcaps
    have hview := dvL_rel hr hD hargs
    have hcall := hc w c.S0 (args.toList.map a.eval ++ cvs) hr.low (by rw [← hva]; exact hview)
    show wpList c.P all (cont c.P k c.Q) (o :: l) a w
    simp only [wpList]
    rw [if_pos (by simp [Region.wanted, hg])]
    refine .inl ?_
    unfold Oper.wp
    have hrun : (execOp a.eval o).run c.P w = .ok (.enter fid (args.toList.map a.eval ++ cvs).toArray) w := by
      unfold execOp
      rw [ho]
      simp only [resolve, hfe, Deferred.ofValue, invoke, Sem.run_bind, Sem.run_pure, Result.andThen_ok]
      have e : (#[] ++ Array.map a.eval args ++ cvs.toArray : Array Value) = (args.toList.map a.eval ++ cvs).toArray := by apply Array.ext'; simp
      rw [e]
      exact he _ w
    rw [hrun]
    simp only [Oper.upon]
    refine hcall.mono ?_
    rintro e w' ⟨v, fb, rfl, h1, h2, h3, h4⟩
    obtain ⟨φ', fs', g1, g2, g3, g4⟩ := hr.called h1 h2 h3 h4 (.inl hl)
    exact h _ w' φ' fs' (g1.putO g4 hp) (hb.step h4 (fun _ h => h.elim) g2 g3)
end
end Go.Proofs.Ytmijpnghcggdfaa.Ab
