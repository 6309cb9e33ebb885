/- A byte of a string. -/
import Derived.Test.YtimgfinlbhodhaaFwB
namespace Go.Proofs.Ytimgfinlbhodhaa.Ab
open Go
set_option linter.unusedVariables false
set_option linter.unusedSimpArgs false
section
variable {c : Cx} {k : List It} {st st' : St} {all : Array Oper} {o : Oper} {l : List Oper}
theorem G.doneN {P : Program} {T : Tab} {S0 : Nat → Prop} {w0 : World} {fs0 : List Nat} {φ0 : List (Option Loc)} {fn : Func} {rs : List ResultVar} {res : A} {xs : List A} {h' junk : Heap} (hT : T.ok P) (hrs : fn.results.toList = rs) (hx : resAll T st.env st.heap rs = some xs) (hr : oneOrTup xs = res)
  (hh : st.heap = h' ++ junk) (hp : refA h'.length res = true) (hq : hrefs h'.length h' = true) (hl : φ0.length ≤ h'.length) : G ⟨P, T, S0, w0, fs0, φ0, bodyPost P fn (MCpost w0 S0 fs0 φ0 res h')⟩ [] st := by
 intro a w φ fs hs hb
 show bodyPost P fn (MCpost w0 S0 fs0 φ0 res h') .ret a w
 obtain ⟨vs, h1, h2⟩ := results_run hT hs (by rw [hrs]; exact hx)
 have hH := hs.heap
 rw [hh] at hH
 obtain ⟨l1, l2, f1, f2, e1, e2, g1, g2⟩ := hH.part
 have hl1 : l1.length = h'.length := g1.length
 have hsub : ∀ b, Sof S0 f1 b → Sof S0 fs b ∨ w.heap.size ≤ b := fun b hb => .inl (hb.imp id (fun h => by rw [e2]; simp [h]))
 have htk : φ.take h'.length = l1 := by rw [e1, ← hl1]; simp
 refine ⟨hs.defers, _, h1, _, l1, f1, rfl, ?_, ?_, ?_, ?_, ?_, ?_⟩
 ·rw [← hr] at hp ⊢
  have := (oneOrTup_rel h2).cut hp
  rw [htk] at this
  exact this.frame (Fr.refl (fun _ => False) w) hsub (fun _ h => h.elim) (Ext.refl _) (fun _ _ h => h)
 ·have := g1.cut hq
  rw [htk] at this
  exact this.frame (Fr.refl (fun _ => False) w) hsub (fun _ h => h.elim) (Ext.refl _) (fun _ _ h => h)
 ·have := hs.nodup
  rw [e2] at this
  exact (List.nodup_append.1 this).1
 ·exact fun b hb0 => hb.2.1 b (by rw [e2]; simp [hb0])
 ·intro m l hm
  have h0 := hb.2.2 m l hm
  have hlt := (List.getElem?_eq_some_iff.1 hm).1
  rw [e1] at h0
  rw [List.getElem?_append_left (by omega)] at h0
  exact h0
 ·exact hb.1
end
end Go.Proofs.Ytimgfinlbhodhaa.Ab
