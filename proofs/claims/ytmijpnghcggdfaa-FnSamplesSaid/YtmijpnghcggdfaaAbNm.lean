/- A state put in order while the caller's own blocks keep their places. -/
import Derived.Test.YtmijpnghcggdfaaFwB
namespace Go.Proofs.Ytmijpnghcggdfaa.Ab
open Go
set_option linter.unusedVariables false
set_option linter.unusedSimpArgs false
section
variable {c : Cx} {k : List It} {st st' : St}
theorem G.permM (live sel : List Nat) (hs : sel.Nodup) (hφ : ∀ m < c.φ0.length, sel[m]? = some m) (he : (⟨live.map fun i => (i, rnA sel (look st.env i)), rnH st.heap sel, st.n⟩ : St) = st') (h : G c k st') : G c k st := by
  subst he
  intro a w φ fs hr hb
  obtain ⟨fr, g1, g2, g3⟩ := rn_heap sel sel hr.heap hr.nodup hs
  refine h a w (pickφ φ sel) fr ⟨hr.defers, hr.size, fun i => ?_, g1.sub (fun b hb => hb.imp id (g3 b)), g2, fun b hb => hr.apart b (g3 b hb), hr.low⟩ ⟨hb.1, fun b hb2 => hb.2.1 b (g3 b hb2), fun m l hm => ?_⟩
  · have : Rel w (Sof c.S0 fs) (pickφ φ sel) (look (live.map fun j => (j, rnA sel (look st.env j))) i) (a.tmps.getD i undef) [] := by
      rcases look_map (f := rnA sel) live st.env i with e | e
      · rw [e]; exact .any _
      · rw [e]; exact rnA_rel (hr.env i)
    exact this.frame (Fr.refl (fun _ => False) w) (fun b hb => .inl (hb.imp id (g3 b))) (fun _ h => h.elim) (Ext.refl _) (fun _ _ h => h)
  · have h1 := hφ m (List.getElem?_eq_some_iff.1 hm).1
    have h2 := hb.2.2 m l hm
    simp only [pickφ, List.getElem?_map, h1, Option.map_some, List.getD_eq_getElem?_getD, h2, Option.getD_some]
end
end Go.Proofs.Ytmijpnghcggdfaa.Ab
