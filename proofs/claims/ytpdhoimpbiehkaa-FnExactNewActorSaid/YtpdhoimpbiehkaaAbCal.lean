/- Calls: what a function is told, and what it hands back. -/
import Derived.Test.YtpdhoimpbiehkaaAbApp4
namespace Go.Proofs.Ytpdhoimpbiehkaa.Ab
open Go
set_option linter.unusedVariables false
set_option linter.unusedSimpArgs false

/-- What a function that is called sees of a value: memory of the caller's own is read alone. -/
def vwSl (h : Heap) (m lo len : Nat) : A :=
  match h[m]? with
  | some (some (sz, es)) => if lo + len ≤ es.length then .row false sz (roLL ((es.drop lo).take len)) else .any
  | _ => .any
def vwPtr (h : Heap) (m i j : Nat) : A :=
  match h[m]? with
  | some (some (sz, es)) => if es.length = 0 then .any else .rp sz (roLL es) i j
  | _ => .any
mutual
def vw (h : Heap) : A → A
  | .sl m lo len => vwSl h m lo len
  | .ptr m i j => vwPtr h m i j
  | .agg cs => .agg (vwL h cs)
  | .tup cs => .tup (vwL h cs)
  | .fn f cs => .fn f (vwL h cs)
  | .row own sz es => .row false sz (if own then roLL es else es)
  | .box cs => ro (.box cs)
  | .any => .any
  | .int k n => .int k n
  | .bool b => .bool b
  | .str s => .str s
  | .nils => .nils
  | .nilp => .nilp
  | .rp sz es i j => .rp sz es i j
def vwL (h : Heap) : List A → List A
  | [] => []
  | a :: as => vw h a :: vwL h as
end
mutual
/-- Nothing that leads into the abstract heap. -/
def noRef : A → Bool
  | .sl .. => false
  | .ptr .. => false
  | .agg cs => noRefL cs
  | .tup cs => noRefL cs
  | .fn _ cs => noRefL cs
  | .row own _ es => !own
  | .box _ => false
  | _ => true
def noRefL : List A → Bool
  | [] => true
  | a :: as => noRef a && noRefL as
end
mutual
/-- Nothing that is lent. -/
def noLoan : A → Bool
  | .row own _ es => own && noLoanLL es
  | .rp .. => false
  | .box cs => noLoanL cs
  | .agg cs => noLoanL cs
  | .tup cs => noLoanL cs
  | .fn _ cs => noLoanL cs
  | _ => true
def noLoanL : List A → Bool
  | [] => true
  | a :: as => noLoan a && noLoanL as
def noLoanLL : List (List A) → Bool
  | [] => true
  | e :: es => noLoanL e && noLoanLL es
end

section view
variable {S0 : Nat → Prop} {st : St} {a : Act} {w : World} {φ : List (Option Loc)} {fs : List Nat}
theorem ro_list {S S' : Nat → Prop} {as : List A} {vs : List Value} {f : List Nat} (h : RelL w S φ as vs f) (hS : ∀ b, S' b → S b) (hf : ∀ b ∈ f, ¬ S' b) : RelL w S' [] (roL as) vs [] := RelL.ro_of hS h hf
theorem roLL_uni {es : List (List A)} {sz : Nat} (hu : ∀ e ∈ es, e.length = sz) : ∀ e ∈ roLL es, e.length = sz := by
  rw [roLL_map]; intro e he; obtain ⟨x, hx, rfl⟩ := List.mem_map.1 he; rw [roL_map, List.length_map]; exact hu x hx
theorem roLL_len (es : List (List A)) : (roLL es).length = es.length := by rw [roLL_map]; simp

theorem blkGet (h : SRel S0 st a w φ fs) {m sz : Nat} {es : List (List A)} (hm : st.heap[m]? = some (some (sz, es))) (hne : es ≠ []) :
    ∃ (l : Loc) (arr : Array Value) (ty : TypeId) (vs : List Value) (f0 : List Nat), φ[m]? = some (some l) ∧ l.sz = sz ∧ w.heap[l.g]? = some (.cells arr ty (0, 0)) ∧ l.g ∈ fs ∧ (∀ b ∈ f0, b ∈ fs) ∧ (∀ e ∈ es, e.length = sz) ∧
      RelL w (Sof S0 fs) φ es.flatten vs f0 ∧ (∀ (k : Nat) (v : Value), vs[k]? = some v → arr[l.off + k]? = some v) ∧ es.length ≤ l.cap := by
  obtain ⟨lo, f1, fb, f2, q1, q2, q3, q4⟩ := h.heap.at_ hm
  cases lo with
  | none => exact q2.elim
  | some l =>
    obtain ⟨hz, q2⟩ := q2
    rcases q2 with q2 | ⟨arr, ty, vs, f0, rfl, r1, r2, r3, r4, r5, r6⟩
    · exact absurd q2.2.1 hne
    · exact ⟨l, arr, ty, vs, f0, q1, hz, r1, by rw [q3]; simp, fun b hb => by rw [q3]; simp [hb], r3, r4, r5, r6⟩
theorem loc_eq {m : Nat} {l l' : Loc} (h : φ[m]? = some (some l)) (h' : φ[m]? = some (some l')) : l' = l := by rw [h] at h'; injection h' with e; injection e with e; exact e.symm

theorem vwSl_rel (h : SRel S0 st a w φ fs) {m lo len : Nat} {v : Value} (hv : Rel w (Sof S0 fs) φ (.sl m lo len) v []) : Rel w S0 [] (vwSl st.heap m lo len) v [] := by
  unfold vwSl
  split
  · rename_i sz es hm
    split
    · rename_i hle
      obtain ⟨ad, c, rfl, hc, l, hml, had⟩ := sl_form hv
      have hl : (roLL ((es.drop lo).take len)).length = len := by rw [roLL_len]; simp; omega
      by_cases hz : len = 0
      · subst hz
        have : (es.drop lo).take 0 = [] := by simp
        rw [this]
        exact .ro0 _ _ _
      · have hne : es ≠ [] := by rintro rfl; simp at hle; omega
        obtain ⟨l', arr, ty, vs, f0, q1, q2, q3, q4, q4', q5, q6, q7, q8⟩ := blkGet h hm hne
        have := loc_eq hml q1
        subst this
        obtain ⟨g1, g2, g3, e1, _, r2, _⟩ := q6.window (lo * sz) (len * sz)
        have hfl : (es.flatten.drop (lo * sz)).take (len * sz) = ((es.drop lo).take len).flatten := by rw [flat_drop q5, flat_take (uni_drop q5 lo)]
        rw [hfl] at r2
        rw [had (by omega)]
        have key : Rel w S0 [] (.row false sz (roLL ((es.drop lo).take len))) (.slice (some ⟨l'.g, l'.off + lo * l'.sz, none⟩) (roLL ((es.drop lo).take len)).length c) [] := by
         refine .ro (ad := ⟨l'.g, l'.off + lo * l'.sz, none⟩) (roLL_uni (uni_take (uni_drop q5 lo) len)) (by rw [roLL_flatten]; exact RelL.ro_of (fun b hb => .inl hb) r2 (fun b hb => h.apart b (q4' b (by rw [e1]; simp [hb])))) (fun k u hk => ⟨?_, h.apart _ q4⟩) (by rw [hl]; exact hc)
         have hk2 : vs[lo * sz + k]? = some u := by
           by_cases hlt : k < len * sz
           · rwa [List.getElem?_take_of_lt hlt, List.getElem?_drop] at hk
           · rw [List.getElem?_eq_none (by simp; omega)] at hk; cases hk
         rw [add_mk, q2]
         simp only [World.cell?, q3]
         rw [← q7 _ _ hk2]
         simp [Nat.add_assoc]
        rw [hl] at key
        exact key
    · exact .any _
  · exact .any _
theorem vwPtr_rel (h : SRel S0 st a w φ fs) {m i j : Nat} {v : Value} (hv : Rel w (Sof S0 fs) φ (.ptr m i j) v []) : Rel w S0 [] (vwPtr st.heap m i j) v [] := by
  unfold vwPtr
  split
  · rename_i sz es hm
    split
    · exact .any _
    · rename_i hne
      obtain ⟨l, arr, ty, vs, f0, q1, q2, q3, q4, q4', q5, q6, q7, q8⟩ := blkGet h hm (by rintro rfl; simp at hne)
      cases hv with
      | ptr hml =>
        rename_i l2
        have := loc_eq q1 hml
        subst this
        have := Rel.rp (w := w) (S := S0) (φ := []) (es := roLL es) (ad := ⟨l2.g, l2.off, none⟩) (i := i) (j := j) (roLL_uni q5) (by rw [roLL_flatten]; exact RelL.ro_of (fun b hb => .inl hb) q6 (fun b hb => h.apart b (q4' b hb))) (fun k u hk => ⟨by rw [add_mk]; simp only [World.cell?, q3]; rw [← q7 _ _ hk]; simp, h.apart _ q4⟩)
        rw [add_mk, ← q2] at this
        rw [← q2]
        exact this
  · exact .any _
mutual
theorem vw_rel (h : SRel S0 st a w φ fs) {x : A} {v : Value} (hv : Rel w (Sof S0 fs) φ x v []) : Rel w S0 [] (vw st.heap x) v [] := by
  cases x with
  | sl m lo len => exact vwSl_rel h hv
  | ptr m i j => exact vwPtr_rel h hv
  | agg cs => cases hv with | agg hr => exact .agg (vwL_rel h hr)
  | tup cs => cases hv with | tup hr => exact .tup (vwL_rel h hr)
  | fn f cs => cases hv with | fn hr => exact .fn (vwL_rel h hr)
  | row own sz es =>
    cases own with
    | true =>
      generalize hf : ([] : List Nat) = f at hv
      cases hv with
      | own => cases hf
      | own0 sz a => exact .ro0 _ _ _
    | false =>
      cases hv with
      | ro hu hr hc hl => exact .ro hu (hr.frame (Fr.refl (fun _ => False) w) (fun b hb => .inl (.inl hb)) (fun _ h => h.elim) (Ext.refl _) (by simp)) (fun k v hk => ⟨(hc k v hk).1, fun hs => (hc k v hk).2 (.inl hs)⟩) hl
      | ro0 sz a c => exact .ro0 _ _ _
  | box cs => cases hv
  | any => exact .any _
  | int k n => cases hv; exact .int _ _
  | bool b => cases hv; exact .bool _
  | str s => cases hv; exact .str _
  | nils => cases hv; exact .nils
  | nilp => cases hv; exact .nilp
  | rp sz es i j => cases hv with | rp hu hr hc => exact .rp hu (hr.frame (Fr.refl (fun _ => False) w) (fun b hb => .inl (.inl hb)) (fun _ h => h.elim) (Ext.refl _) (by simp)) (fun k v hk => ⟨(hc k v hk).1, fun hs => (hc k v hk).2 (.inl hs)⟩)
theorem vwL_rel (h : SRel S0 st a w φ fs) {xs : List A} {vs : List Value} (hv : RelL w (Sof S0 fs) φ xs vs []) : RelL w S0 [] (vwL st.heap xs) vs [] := by
  cases xs with
  | nil => cases hv; exact .nil
  | cons x xs =>
    generalize hf : ([] : List Nat) = f at hv
    cases hv with
    | cons h1 h2 =>
      obtain ⟨e1, e2⟩ := List.append_eq_nil_iff.1 hf.symm
      subst e1 e2
      exact .cons (f := []) (fs := []) (vw_rel h h1) (vwL_rel h h2)
end
end view
end Go.Proofs.Ytpdhoimpbiehkaa.Ab
