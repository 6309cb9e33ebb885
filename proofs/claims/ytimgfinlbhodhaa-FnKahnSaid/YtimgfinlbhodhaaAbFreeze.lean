/- A block of one's own that is only read from here on. -/
import Derived.Test.YtimgfinlbhodhaaFwB
namespace Go.Proofs.Ytimgfinlbhodhaa.Ab
open Go
set_option linter.unusedVariables false
set_option linter.unusedSimpArgs false
section
variable {c : Cx} {k : List It} {st st' : St}
theorem G.freeze (t m : Nat) {sz : Nat} {es : List (List A)} (hm : st.heap[m]? = some (some (sz, es))) (ht : look st.env t = .sl m 0 es.length)
  (h : G c k ⟨(t, .row false sz (roLL es)) :: st.env, st.heap.set m none, st.n⟩) : G c k st := by
 intro a w φ fs hs hb
 obtain ⟨l, fr, fb, q1, q2, q3, q4⟩ := hs.heap.kill hs.nodup hm
 have hsub : ∀ b, b ∈ fr → b ∈ fs := fun b hb2 => q4.mem_iff.2 (List.mem_append.2 (.inl hb2))
 have hsubB : ∀ b, b ∈ fb → b ∈ fs := fun b hb2 => q4.mem_iff.2 (List.mem_append.2 (.inr hb2))
 have hnd := q4.nodup hs.nodup
 rw [List.nodup_append] at hnd
 have hS : ∀ b, Sof c.S0 fr b → Sof c.S0 fs b := fun b hb2 => hb2.imp id (hsub b)
 have hno : ∀ b, b ∈ fb → ¬ Sof c.S0 fr b := by
  rintro b hb2 (h1 | h1)
  ·exact hs.apart b (hsubB b hb2) h1
  ·exact hnd.2.2 b h1 b hb2 rfl
 have key : Rel w (Sof c.S0 fr) φ (.row false sz (roLL es)) (a.tmps.getD t undef) [] := by
  have hv := hs.env t
  rw [ht] at hv
  obtain ⟨ad, cap, e1, hc, l2, hml, had⟩ := sl_form hv
  rw [e1]
  by_cases hz : es = []
  ·subst hz
   exact .ro0 _ _ _
  ·obtain ⟨hzs, q2⟩ := q2
   rcases q2 with q2 | ⟨arr, ty, vs, f0, rfl, r1, r2, r3, r4, r5, r6⟩
   ·exact absurd q2.2.1 hz
   ·have hpos : 0 < es.length := List.length_pos_iff.2 hz
    have := loc_eq hml q1
    subst this
    rw [had (by omega)]
    have key2 : Rel w (Sof c.S0 fr) φ (.row false sz (roLL es)) (.slice (some ⟨l.g, l.off + 0 * l.sz, none⟩) (roLL es).length cap) [] := by
     refine .ro (vs := vs) (roLL_uni r3) (by rw [roLL_flatten]; exact RelL.ro_of hS r4 (fun b hb2 => hno b (by simp [hb2]))) (fun k v hk => ⟨?_, hno _ (by simp)⟩) (by rw [roLL_len]; omega)
     rw [add_mk]
     simp only [World.cell?, r1]
     rw [← r5 _ _ hk]
     simp
    rw [roLL_len] at key2
    exact key2
 refine h a w φ fr ⟨hs.defers, hs.size, fun i => ?_, q3.frame (Fr.refl (fun _ => False) w) (fun b hb2 => .inl (hS b hb2)) (fun _ h => h.elim) (Ext.refl _) (fun _ _ h => h), hnd.1, fun b hb2 => hs.apart b (hsub b hb2), hs.low⟩ ⟨hb.1, fun b hb2 => hb.2.1 b (hsub b hb2), hb.2.2⟩
 by_cases e : i = t
 ·subst e
  have : look ((i, A.row false sz (roLL es)) :: st.env) i = .row false sz (roLL es) := by simp [look]
  rw [this]
  exact key
 ·have : look ((t, A.row false sz (roLL es)) :: st.env) i = look st.env i := by simp [look, e, Ne.symm e]
  rw [this]
  exact (hs.env i).frame (Fr.refl (fun _ => False) w) (fun b hb2 => .inl (hS b hb2)) (fun _ h => h.elim) (Ext.refl _) (fun _ _ h => h)
theorem G.roCell (m i j : Nat) {sz : Nat} {es : List (List A)} {e : List A} {x : A} (hm : st.heap[m]? = some (some (sz, es))) (he : es[i]? = some e) (hj : e[j]? = some x)
  (h : G c k (withH st (st.heap.set m (some (sz, es.set i (e.set j (ro x))))))) : G c k st := by
 intro a w φ fs hr hb
 obtain ⟨lo, f1, fb, f2, q1, q2, q3, q4⟩ := hr.heap.at_ hm
 cases lo with
 | none => exact q2.elim
 | some l =>
  obtain ⟨hz, q2⟩ := q2
  rcases q2 with q2 | ⟨arr, ty, vs, f0, rfl, r1, r2, r3, r4, r5, r6⟩
  ·rw [q2.2.1] at he; simp at he
  ·have hel : e.length = sz := r3 _ (List.mem_of_getElem? he)
   have hjl : j < e.length := (List.getElem?_eq_some_iff.1 hj).1
   have hfg : es.flatten[i * sz + j]? = some x := by rw [flat_get r3 he (by omega)]; exact hj
   obtain ⟨g1, g2, g3, e1, w1, w2, w3⟩ := r4.window (i * sz + j) 1
   have hone : (es.flatten.drop (i * sz + j)).take 1 = [x] := by
    obtain ⟨hlt, hv⟩ := List.getElem?_eq_some_iff.1 hfg
    rw [List.drop_eq_getElem_cons hlt, hv]; rfl
   rw [hone] at w2
   have hnd := hr.nodup
   rw [q3, e1] at hnd
   obtain ⟨fs', hfs⟩ : ∃ z, f1 ++ ((l.g :: (g1 ++ g3)) ++ f2) = z := ⟨_, rfl⟩
   have hsub : ∀ b, b ∈ fs' → b ∈ fs := fun b hb2 => by
    rw [← hfs] at hb2
    rw [q3, e1]
    simp only [List.mem_append, List.mem_cons] at hb2 ⊢
    rcases hb2 with h | (h | h | h) | h
    ·exact .inl h
    ·exact .inr (.inl (.inl h))
    ·exact .inr (.inl (.inr (.inl h)))
    ·exact .inr (.inl (.inr (.inr (.inr h))))
    ·exact .inr (.inr h)
   have hS : ∀ b, Sof c.S0 fs' b → Sof c.S0 fs b := fun b hb2 => hb2.imp id (hsub b)
   have hg2 : ∀ b ∈ g2, ¬ Sof c.S0 fs' b := by
    rintro b hb2 (h1 | h1)
    ·refine hr.apart b ?_ h1
     rw [q3, e1]
     simp [hb2]
    ·rw [← hfs] at h1
     simp only [List.nodup_append, List.nodup_cons, List.mem_append, List.mem_cons] at hnd h1
     obtain ⟨n1, ⟨⟨n2, n3, ⟨n4, n5, n6⟩, n7⟩, n8, n9⟩, n10⟩ := hnd
     rcases h1 with h1 | (h1 | h1 | h1) | h1
     ·exact n10 b h1 b (.inl (.inr (.inr (.inl hb2)))) rfl
     ·exact n2 (.inr (.inl (h1 ▸ hb2)))
     ·exact n7 b h1 b (.inl hb2) rfl
     ·exact n6 b hb2 b h1 rfl
     ·exact n9 b (.inr (.inr (.inl hb2))) b h1 rfl
   have hnd' : fs'.Nodup := by
    rw [← hfs]
    refine List.Nodup.sublist ?_ hnd
    refine (List.Sublist.refl f1).append (List.Sublist.append ?_ (List.Sublist.refl f2))
    exact ((List.Sublist.refl g1).append (List.sublist_append_right g2 g3)).cons_cons l.g
   have fr0 : ∀ {as : List A} {us : List Value} {g : List Nat}, RelL w (Sof c.S0 fs) φ as us g → RelL w (Sof c.S0 fs') φ as us g := fun h => h.frame (Fr.refl (fun _ => False) w) (fun b hb2 => .inl (hS b hb2)) (fun _ h => h.elim) (Ext.refl _) (fun _ _ h => h)
   have w2' : RelL w (Sof c.S0 fs') φ [ro x] ((vs.drop (i * sz + j)).take 1) [] := by
    have := RelL.ro_of (φ' := φ) hS w2 hg2
    simpa [roL] using this
   have hflat : (es.set i (e.set j (ro x))).flatten = es.flatten.take (i * sz + j) ++ ([ro x] ++ (es.flatten.drop (i * sz + j)).drop 1) := by
    rw [set_take e j _ hjl]
    exact flat_cells (cs := [ro x]) r3 he (by simp; omega)
   have hblk : BRel w (Sof c.S0 fs') φ (some (sz, es.set i (e.set j (ro x)))) (some l) (l.g :: (g1 ++ g3)) := by
    refine ⟨hz, .inr ⟨arr, ty, vs, _, rfl, r1, r2, uni_set r3 (by simp [hel]), ?_, r5, by simpa using r6⟩⟩
    rw [hflat]
    have h1 := (fr0 w1).append (w2'.append (fr0 w3))
    rw [List.take_append_drop, List.take_append_drop] at h1
    exact h1
   have hH := q4 w (Sof c.S0 fs') (fun _ => False) φ _ _ (Fr.refl _ w) (fun b hb2 => .inl (hS b hb2)) (fun _ h => h.elim) (Ext.refl φ) (fun _ _ h => h) (fun _ _ h => h) hblk
   rw [hfs] at hH
   refine h a w φ fs' ⟨hr.defers, hr.size, fun i => (hr.env i).frame (Fr.refl (fun _ => False) w) (fun b hb2 => .inl (hS b hb2)) (fun _ h => h.elim) (Ext.refl _) (fun _ _ h => h), hH, hnd', fun b hb2 => hr.apart b (hsub b hb2), hr.low⟩ ⟨hb.1, fun b hb2 => hb.2.1 b (hsub b hb2), hb.2.2⟩
end
end Go.Proofs.Ytimgfinlbhodhaa.Ab
