/- A block of one's own that is only read from here on. -/
import Derived.Test.YtimgfinlbhodhaaFwB
namespace Go.Proofs.Ytimgfinlbhodhaa.Ab
open Go
set_option linter.unusedVariables false
set_option linter.unusedSimpArgs false
section
variable {c : Cx} {k : List It} {st st' : St}
theorem G.freeze (t m : Nat) {sz : Nat} {es : List (List A)} (hm : st.heap[m]? = some (some (sz, es))) (ht : look st.env t = .sl m 0 es.length)
  (h : G c k ⟨(t, .row false sz (roLL es)) :: st.env, st.heap.set m none, st.n⟩) : G c k st := by
 intro a w φ fs hs hb
 obtain ⟨l, fr, fb, q1, q2, q3, q4⟩ := hs.heap.kill hs.nodup hm
 have hsub : ∀ b, b ∈ fr → b ∈ fs := fun b hb2 => q4.mem_iff.2 (List.mem_append.2 (.inl hb2))
 have hsubB : ∀ b, b ∈ fb → b ∈ fs := fun b hb2 => q4.mem_iff.2 (List.mem_append.2 (.inr hb2))
 have hnd := q4.nodup hs.nodup
 rw [List.nodup_append] at hnd
 have hS : ∀ b, Sof c.S0 fr b → Sof c.S0 fs b := fun b hb2 => hb2.imp id (hsub b)
 have hno : ∀ b, b ∈ fb → ¬ Sof c.S0 fr b := by
  rintro b hb2 (h1 | h1)
  ·exact hs.apart b (hsubB b hb2) h1
  ·exact hnd.2.2 b h1 b hb2 rfl
 have key : Rel w (Sof c.S0 fr) φ (.row false sz (roLL es)) (a.tmps.getD t undef) [] := by
  have hv := hs.env t
  rw [ht] at hv
  obtain ⟨ad, cap, e1, hc, l2, hml, had⟩ := sl_form hv
  rw [e1]
  by_cases hz : es = []
  ·subst hz
   exact .ro0 _ _ _
  ·obtain ⟨hzs, q2⟩ := q2
   rcases q2 with q2 | ⟨arr, ty, vs, f0, rfl, r1, r2, r3, r4, r5, r6⟩
   ·exact absurd q2.2.1 hz
   ·have hpos : 0 < es.length := List.length_pos_iff.2 hz
    have := loc_eq hml q1
    subst this
    rw [had (by omega)]
    have key2 : Rel w (Sof c.S0 fr) φ (.row false sz (roLL es)) (.slice (some ⟨l.g, l.off + 0 * l.sz, none⟩) (roLL es).length cap) [] := by
     refine .ro (vs := vs) (roLL_uni r3) (by rw [roLL_flatten]; exact RelL.ro_of hS r4 (fun b hb2 => hno b (by simp [hb2]))) (fun k v hk => ⟨?_, hno _ (by simp)⟩) (by rw [roLL_len]; omega)
     rw [add_mk]
     simp only [World.cell?, r1]
     rw [← r5 _ _ hk]
     simp
    rw [roLL_len] at key2
    exact key2
 refine h a w φ fr ⟨hs.defers, hs.size, fun i => ?_, q3.frame (Fr.refl (fun _ => False) w) (fun b hb2 => .inl (hS b hb2)) (fun _ h => h.elim) (Ext.refl _) (fun _ _ h => h), hnd.1, fun b hb2 => hs.apart b (hsub b hb2), hs.low⟩ ⟨hb.1, fun b hb2 => hb.2.1 b (hsub b hb2), hb.2.2⟩
 by_cases e : i = t
 ·subst e
  have : look ((i, A.row false sz (roLL es)) :: st.env) i = .row false sz (roLL es) := by simp [look]
  rw [this]
  exact key
 ·have : look ((t, A.row false sz (roLL es)) :: st.env) i = look st.env i := by simp [look, e, Ne.symm e]
  rw [this]
  exact (hs.env i).frame (Fr.refl (fun _ => False) w) (fun b hb2 => .inl (hS b hb2)) (fun _ h => h.elim) (Ext.refl _) (fun _ _ h => h)
end
end Go.Proofs.Ytimgfinlbhodhaa.Ab
