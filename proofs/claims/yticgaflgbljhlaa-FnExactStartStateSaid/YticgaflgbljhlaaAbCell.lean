/- A cell's value told in another way. -/
import Derived.Test.YticgaflgbljhlaaFwB
namespace Go.Proofs.Yticgaflgbljhlaa.Ab
open Go
set_option linter.unusedVariables false
set_option linter.unusedSimpArgs false
section
variable {c : Cx} {k : List It} {st st' : St}
theorem G.weakCell (m i j : Nat) {sz : Nat} {es : List (List A)} {e : List A} {x : A} (y : A) (hm : st.heap[m]? = some (some (sz, es))) (he : es[i]? = some e) (hj : e[j]? = some x) (hx0 : ∀ (w : World) (S : Nat → Prop) (φ : List (Option Loc)) (v : Value) (f : List Nat), Rel w S φ x v f → Rel w S φ y v f)
    (h : G c k (withH st (st.heap.set m (some (sz, es.set i (e.set j y)))))) : G c k st := by
  intro a w φ fs hr hb
  obtain ⟨lo, f1, fb, f2, q1, q2, q3, q4⟩ := hr.heap.at_ hm
  cases lo with
  | none => exact q2.elim
  | some l =>
    obtain ⟨hz, q2⟩ := q2
    rcases q2 with q2 | ⟨arr, ty, vs, f0, rfl, r1, r2, r3, r4, r5, r6⟩
    · rw [q2.2.1] at he; simp at he
    · have hel : e.length = sz := r3 _ (List.mem_of_getElem? he)
      have hjl : j < e.length := (List.getElem?_eq_some_iff.1 hj).1
      have hfg : es.flatten[i * sz + j]? = some x := by rw [flat_get r3 he (by omega)]; exact hj
      obtain ⟨g1, g2, g3, e1, w1, w2, w3⟩ := r4.window (i * sz + j) 1
      have hone : (es.flatten.drop (i * sz + j)).take 1 = [x] := by
        obtain ⟨hlt, hv⟩ := List.getElem?_eq_some_iff.1 hfg
        rw [List.drop_eq_getElem_cons hlt, hv]; rfl
      rw [hone] at w2
      have w2' : RelL w (Sof c.S0 fs) φ [y] ((vs.drop (i * sz + j)).take 1) g2 := by
        generalize (vs.drop (i * sz + j)).take 1 = us at w2
        cases w2 with
        | cons h1 h2 => exact .cons (hx0 _ _ _ _ _ h1) h2
      have hflat : (es.set i (e.set j y)).flatten = es.flatten.take (i * sz + j) ++ ([y] ++ (es.flatten.drop (i * sz + j)).drop 1) := by
        rw [set_take e j _ hjl]
        exact flat_cells (cs := [y]) r3 he (by simp; omega)
      have hblk : BRel w (Sof c.S0 fs) φ (some (sz, es.set i (e.set j y))) (some l) (l.g :: f0) := by
        refine ⟨hz, .inr ⟨arr, ty, vs, _, rfl, r1, r2, uni_set r3 (by simp [hel]), ?_, r5, by simpa using r6⟩⟩
        rw [hflat]
        have h1 := w1.append (w2'.append w3)
        rw [List.take_append_drop, List.take_append_drop] at h1
        rw [e1]
        exact h1
      have hH := q4 w (Sof c.S0 fs) (fun _ => False) φ _ _ (Fr.refl _ w) (fun b hb => .inl hb) (fun _ h => h.elim) (Ext.refl φ) (fun _ _ h => h) (fun _ _ h => h) hblk
      rw [← q3] at hH
      exact h a w φ fs ⟨hr.defers, hr.size, hr.env, hH, hr.nodup, hr.apart, hr.low⟩ hb
theorem nil_own {sz : Nat} {w : World} {S : Nat → Prop} {φ : List (Option Loc)} {v : Value} {f : List Nat} (h : Rel w S φ .nils v f) : Rel w S φ (.row true sz []) v f := by cases h; exact .own0 _ _
theorem nil_ro {sz : Nat} {w : World} {S : Nat → Prop} {φ : List (Option Loc)} {v : Value} {f : List Nat} (h : Rel w S φ .nils v f) : Rel w S φ (.row false sz []) v f := by cases h; exact .ro0 _ _ _
/-- The last one's cell is nil: an empty row. -/
theorem G.lastNil {α : Type} (m q : Nat) {sz : Nat} {f : α → List A} {l : List α} {e : List A} (own : Bool) (sz' : Nat) (x : α) (hm : st.heap[m]? = some (some (sz, l.map f ++ [e]))) (he : e[q]? = some .nils) (hx : e.set q (.row own sz' []) = f x)
    (h : G c k (withH st (st.heap.set m (some (sz, (l ++ [x]).map f))))) : G c k st := by
  refine G.weakCell m l.length q (e := e) (.row own sz' []) hm (by simp) he (fun w S φ v f h => by cases own; exact nil_ro h; exact nil_own h) ?_
  have e2 : (l.map f ++ [e]).set l.length (e.set q (.row own sz' [])) = (l ++ [x]).map f := by
    rw [hx, List.set_append_right _ _ (by simp)]
    simp
  rw [e2]
  exact h
end
end Go.Proofs.Yticgaflgbljhlaa.Ab
