/- Rows of rows of numbers: read alone, and of one's own; one of them taken out and put back. -/
import Derived.Test.YticgaflgbljhlaaAbP20
import Derived.Test.YticgaflgbljhlaaAbPrc
import Derived.Test.YticgaflgbljhlaaAbAuto2
import Derived.Test.YticgaflgbljhlaaAbAutoG
namespace Go.Proofs.Yticgaflgbljhlaa.Ab
open Go
set_option linter.unusedVariables false
set_option linter.unusedSimpArgs false
def ovL (x : List Int) : List A := [.row true 1 (x.map iv)]
theorem ovL_eq (x : List Int) : ovL x = [.row true 1 (x.map iv)] := rfl
theorem pureLL_ovL (l : List (List Int)) : pureLL (l.map ovL) = true := pureLL_all (fun x => by simp [ovL, pureL, pureA, pureLL_iv]) l
theorem roLL_ovL (l : List (List Int)) : roLL (l.map ovL) = l.map ivL := by
  rw [roLL_map, List.map_map]
  exact List.map_congr_left fun x _ => by simp [ovL, ivL, roL, ro, roLL_iv]
theorem ovL_inj {l l' : List (List Int)} : l.map ovL = l'.map ovL ↔ l = l' := ⟨map_inj (fun x y h => by simpa [ovL, iv_inj] using h), fun h => by rw [h]⟩
theorem noLoanLL_ovL (l : List (List Int)) : noLoanLL (l.map ovL) = true := noLoanLL_all (fun x => by simp [ovL, noLoanL, noLoan, noLoanLL_iv]) l
def nilsL (n : Nat) : List (List Int) := List.replicate n []
theorem nilsL_len (n : Nat) : (nilsL n).length = n := by simp [nilsL]
theorem nilsL_succ (n : Nat) : (nilsL n).map ovL ++ [[.row true 1 []]] = (nilsL (n + 1)).map ovL := by simp [nilsL, List.replicate_succ', ovL]
section
variable {c : Cx} {k : List It} {st st' : St}
theorem G.focusO (m q : Nat) {outs : List (List Int)} (hm : st.heap[m]? = some (some (1, outs.map ovL))) (hq : q < outs.length)
    (h : G c k (withH st ((st.heap.set m (some (1, (outs.map ovL).set q [.sl st.heap.length 0 (outs.getD q default).length]))) ++ [some (1, (outs.getD q default).map iv)]))) : G c k st := by
  refine G.focus m q 0 (e := ovL (outs.getD q default)) (sz' := 1) (es' := (outs.getD q default).map iv) hm (by simp [hq]) rfl ?_
  simpa [ovL] using h
theorem G.unfocusO (m q n : Nat) {outs : List (List Int)} {r : List Int} {len : Nat} (hm : st.heap[m]? = some (some (1, (outs.map ovL).set q [.sl n 0 len]))) (hn : st.heap[n]? = some (some (1, r.map iv))) (hne : m ≠ n) (hl : len = r.length) (hq : q < outs.length)
    (h : G c k (withH st ((st.heap.set n none).set m (some (1, (outs.set q r).map ovL))))) : G c k st := by
  subst hl
  refine G.unfocus m q 0 n (e := [.sl n 0 r.length]) hm (by simp [hq]) rfl hn hne (by simp) (pureLL_iv r) ?_
  have e1 : (((r.map iv).drop 0).take r.length) = r.map iv := by rw [List.drop_zero]; exact List.take_of_length_le (by simp)
  rw [e1]
  have e2 : ((outs.map ovL).set q [A.sl n 0 r.length]).set q ([A.sl n 0 r.length].set 0 (.row true 1 (r.map iv))) = (outs.set q r).map ovL := by
    rw [List.set_set, List.map_set]; rfl
  rw [e2]
  exact h
theorem nils_rel {w : World} {S : Nat → Prop} {φ : List (Option Loc)} : ∀ (n : Nat) {vs : List Value} {f : List Nat}, RelL w S φ (List.replicate n [A.nils]).flatten vs f → RelL w S φ ((nilsL n).map ovL).flatten vs f
  | 0, _, _, h => by simpa [nilsL] using h
  | n + 1, _, _, h => by
    rw [List.replicate_succ, List.flatten_cons] at h
    have e : (nilsL (n + 1)).map ovL = [.row true 1 []] :: (nilsL n).map ovL := by simp [nilsL, List.replicate_succ, ovL]
    rw [e, List.flatten_cons]
    obtain ⟨u1, u2, g1, g2, rfl, rfl, r1, r2⟩ := h.split
    refine RelL.append ?_ (nils_rel n r2)
    cases r1 with
    | cons h1 h2 => cases h2; cases h1; exact .cons (.own0 _ _) .nil
/-- Nil slices are empty rows of one's own. -/
theorem G.nilBlk (m n : Nat) (hm : st.heap[m]? = some (some (1, List.replicate n [A.nils]))) (h : G c k (withH st (st.heap.set m (some (1, (nilsL n).map ovL))))) : G c k st := by
  intro a w φ fs hr hb
  obtain ⟨lo, f1, fb, f2, q1, q2, q3, q4⟩ := hr.heap.at_ hm
  have hblk : BRel w (Sof c.S0 fs) φ (some (1, (nilsL n).map ovL)) lo fb := by
    cases lo with
    | none => exact q2.elim
    | some l =>
      obtain ⟨hz, q2⟩ := q2
      rcases q2 with q2 | ⟨arr, ty, vs, f0, rfl, r1, r2, r3, r4, r5, r6⟩
      · refine ⟨hz, .inl ⟨q2.1, ?_, q2.2.2⟩⟩
        have : n = 0 := by
          cases n with
          | zero => rfl
          | succ n => have := q2.2.1; rw [List.replicate_succ] at this; cases this
        subst this
        rfl
      · refine ⟨hz, .inr ⟨arr, ty, vs, f0, rfl, r1, r2, fun e he => ?_, nils_rel n r4, r5, by simpa [nilsL] using r6⟩⟩
        obtain ⟨x, _, rfl⟩ := List.mem_map.1 he
        rfl
  have hH := q4 w (Sof c.S0 fs) (fun _ => False) φ _ fb (Fr.refl _ w) (fun b hb => .inl hb) (fun _ h => h.elim) (Ext.refl φ) (fun _ _ h => h) (fun _ _ h => h) hblk
  rw [← q3] at hH
  exact h a w φ fs ⟨hr.defers, hr.size, hr.env, hH, hr.nodup, hr.apart, hr.low⟩ hb
/-- The last one is put back. -/
theorem G.lastO (m n : Nat) {outs : List (List Int)} {r : List Int} {len : Nat} (hm : st.heap[m]? = some (some (1, outs.map ovL ++ [[.sl n 0 len]]))) (hn : st.heap[n]? = some (some (1, r.map iv))) (hne : m ≠ n) (hl : len = r.length)
    (h : G c k (withH st ((st.heap.set n none).set m (some (1, (outs ++ [r]).map ovL))))) : G c k st := by
  subst hl
  refine G.unfocus m outs.length 0 n (e := [.sl n 0 r.length]) hm (by simp) rfl hn hne (by simp) (pureLL_iv r) ?_
  have e1 : (((r.map iv).drop 0).take r.length) = r.map iv := by rw [List.drop_zero]; exact List.take_of_length_le (by simp)
  rw [e1]
  have e2 : (outs.map ovL ++ [[A.sl n 0 r.length]]).set outs.length ([A.sl n 0 r.length].set 0 (.row true 1 (r.map iv))) = (outs ++ [r]).map ovL := by
    rw [List.set_append_right _ _ (by simp)]
    simp [ovL]
  rw [e2]
  exact h
end
end Go.Proofs.Yticgaflgbljhlaa.Ab
