/- Networks that are fed more; histories that are cut: plain law. -/
import Derived.Test.YtimgfinlbhodhaaAbMono
import Derived.Test.YtimgfinlbhodhaaAbTok
import Derived.Test.YtimgfinlbhodhaaAbWire
namespace Go.Proofs.Ytimgfinlbhodhaa.Ab
open Go
set_option linter.unusedVariables false
set_option linter.unusedSimpArgs false
section
variable {ps : List PG} {ks ls : List LK} {g h : List (List Int)}
theorem G.cellRo2 {c : Cx} {k : List It} {st : St} (m i j n : Nat) {sz sz' : Nat} {es es' es2 : List (List A)} {e : List A} (hm : st.heap[m]? = some (some (sz, es))) (he : es[i]? = some e) {len : Nat} (hj : e[j]? = some (.sl n 0 len)) (hn : st.heap[n]? = some (some (sz', es'))) (hl : len = es'.length) (hne : m ≠ n) (hpu : pureLL es' = true) (hro : roLL es' = es2)
  (h : G c k (withH st ((st.heap.set n none).set m (some (sz, es.set i (e.set j (.row false sz' es2))))))) : G c k st := by
 subst hl
 have hml : m < st.heap.length := (List.getElem?_eq_some_iff.1 hm).1
 have hil : i < es.length := (List.getElem?_eq_some_iff.1 he).1
 have hjl : j < e.length := (List.getElem?_eq_some_iff.1 hj).1
 refine G.unfocus m i j n (e := e) hm he hj hn hne (by simp) hpu ?_
 have e1 : ((es'.drop 0).take es'.length) = es' := by rw [List.drop_zero]; exact List.take_of_length_le (by simp)
 rw [e1]
 refine G.roCell m i j (sz := sz) (es := es.set i (e.set j (.row true sz' es'))) (e := e.set j (.row true sz' es')) (x := .row true sz' es') ?_ (by simp [hil]) (by simp [hjl]) ?_
 ·simp [withH, hml]
 ·have e3 : (es.set i (e.set j (A.row true sz' es'))).set i ((e.set j (A.row true sz' es')).set j (ro (A.row true sz' es'))) = es.set i (e.set j (.row false sz' es2)) := by
   rw [List.set_set, List.set_set]
   have : ro (A.row true sz' es') = .row false sz' es2 := by simp [ro, hro]
   rw [this]
  rw [e3]
  simpa [withH] using h
structure KLe (ks ls : List LK) : Prop where
 len : ks.length = ls.length
 fr : ∀ j, (ks.getD j default).fr = (ls.getD j default).fr
 ou : ∀ j, (ks.getD j default).ou = (ls.getD j default).ou
 to : ∀ j, (ks.getD j default).to = (ls.getD j default).to
 ip : ∀ j, (ks.getD j default).ip = (ls.getD j default).ip
 tk : ∀ j, (ks.getD j default).tk = (ls.getD j default).tk ∨ ((ks.getD j default).fr = -1 ∧ (ks.getD j default).tk <+: (ls.getD j default).tk)
theorem map_same {q : LK → Bool} (hl : ks.length = ls.length) (h : ∀ j, q (ks.getD j default) = q (ls.getD j default)) : ks.map q = ls.map q :=
 List.ext_getElem (by simp [hl]) (fun j h1 h2 => by
  have := h j
  simp only [List.length_map] at h1 h2
  simpa [List.getD_eq_getElem?_getD, h1, h2] using this)
theorem onlyAt_map (q : LK → Bool) (l : List LK) : onlyAt q l = match (l.map q).findIdx? id with
  | none => -1
  | some a => if ((l.map q).drop (a + 1)).any id then -2 else (a : Int) := by
 unfold onlyAt
 rw [List.findIdx?_map, Function.id_comp]
 cases l.findIdx? q with
 | none => rfl
 | some a => simp only [← List.map_drop, List.any_map, Function.id_comp]
theorem onlyAt_congr {q : LK → Bool} (h : ks.map q = ls.map q) : onlyAt q ks = onlyAt q ls := by
 rw [onlyAt_map, onlyAt_map, h]
theorem KLe.atTo (k : KLe ks ls) (p q : Int) : onlyAt (isTo p q) ls = onlyAt (isTo p q) ks :=
 (onlyAt_congr (map_same k.len fun j => by unfold isTo; rw [k.to, k.ip])).symm
theorem KLe.insK (k : KLe ks ls) (h : List (List Int)) (p : Nat) : insK ps ls h p = insK ps ks h p := by
 unfold Ab.insK insN
 refine List.map_congr_left fun q _ => ?_
 unfold insAt
 rw [k.atTo]
theorem KLe.outK (k : KLe ks ls) (h : List (List Int)) (p : Nat) : outK ps ls h p = outK ps ks h p := by
 unfold Ab.outK runK
 rw [k.insK]
theorem KLe.nxts (k : KLe ks ls) (hl : LeL g h) : LeL (nxts ps ks g) (nxts ps ls h) := by
 refine ⟨by rw [nxts_len, nxts_len, k.len], fun j => ?_⟩
 rw [nxts_get2, nxts_get2, ← k.len]
 split
 ·rcases k.tk j with e | ⟨e1, e2⟩
  ·have : nxtL ps ls h (ls.getD j default) = nxtL ps ks h (ks.getD j default) := by
    unfold nxtL
    rw [k.outK, ← e, ← k.fr, ← k.ou]
   rw [this]
   exact nxtL_less hl _
  ·have e3 : (ls.getD j default).fr = -1 := by rw [← k.fr]; exact e1
   unfold nxtL
   rw [if_neg (by omega), if_neg (by omega)]
   exact e2
 ·exact List.prefix_refl _
theorem KLe.it (k : KLe ks ls) : ∀ n, LeL (itS ps ks (tkL ks) n) (itS ps ls (tkL ls) n)
 | 0 => by
  refine ⟨by simp only [itS]; rw [tkL_len, tkL_len, k.len], fun j => ?_⟩
  simp only [itS]
  rw [tkL_get2, tkL_get2, ← k.len]
  split
  ·rcases k.tk j with e | ⟨_, e2⟩
   ·rw [e]; exact List.prefix_refl _
   ·exact e2
  ·exact List.prefix_refl _
 | n + 1 => k.nxts (k.it n)
end
section
variable {ps : List PG} {ks : List LK} {h : List (List Int)} {rounds : Int} {bs : List Int}
theorem LstW.tok (w : LstW ps ks h rounds) {k : Nat} (hk : k < ks.length) : (ks.getD k default).tk.length ≤ (h.getD k default).length := by
 have := (w.above 0).2 k
 simp only [itS] at this
 rw [tkL_get2, if_pos hk] at this
 exact this.length_le
def belowB (g h : List (List Int)) : Bool := decide (g.length = h.length) && allPfx pfxB g h
theorem below_yes {g h : List (List Int)} (hl : LeL g h) (hs : h.all strOk = true) : belowB g h = true := by
 unfold belowB
 rw [decide_eq_true hl.1, Bool.true_and]
 refine allPfx_yes fun k hk => ?_
 unfold pfxB
 have h2 := List.all_eq_true.1 hs _ (getD_mem0 (l := h) (k := k) (by rw [← hl.1]; exact hk))
 rw [h2, strOk_pfx (hl.2 k) h2, begB_pfx.2 (hl.2 k)]
 rfl
end
end Go.Proofs.Ytimgfinlbhodhaa.Ab
