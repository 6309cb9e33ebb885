/- What is observed of least streams, what processes wait for. Plain definitions and lemmas. -/
import Derived.Test.YtimgfinlbhodhaaFwGd
import Derived.Test.YtimgfinlbhodhaaAbFreeze
namespace Go.Proofs.Ytimgfinlbhodhaa.Ab
open Go
set_option linter.unusedVariables false
set_option linter.unusedSimpArgs false
section
variable {ps : List PG} {ks : List LK}
theorem leastG_ok : ∀ (n : Nat) (h : List (List Int)), h.length = ks.length → h.all strOk = true → (leastG ps ks n h).2.2 = true → (leastG ps ks n h).1.length = ks.length ∧ (leastG ps ks n h).1.all strOk = true
 | 0, h, _, _, hk => by simp [leastG] at hk
 | n + 1, h, h1, h2, hk => by
  unfold leastG at hk ⊢
  split at hk
  ·cases hk
  ·rename_i hr
   rw [if_neg hr]
   split at hk
   ·rename_i he
    rw [if_pos he]
    exact ⟨h1, h2⟩
   ·rename_i he
    rw [if_neg he]
    exact leastG_ok n _ (rnd_len (by simpa using hr)) (rnd_all h) hk
theorem leastO_ok (h : (leastO ps ks).2.2 = true) : netOk ps ks = true ∧ (leastO ps ks).1.length = ks.length ∧ (leastO ps ks).1.all strOk = true := by
 unfold leastO at h ⊢
 split at h
 ·rename_i hn
  rw [if_pos hn]
  exact ⟨hn, leastG_ok 300 _ (tkL_len ks) (tkL_all hn) h⟩
 ·cases h
def obsU (ks : List LK) (H : List (List Int)) : Nat → List (List Int)
 | 0 => []
 | j + 1 => if isOut (ks.getD j default) = true then obsU ks H j ++ [H.getD j default] else obsU ks H j
def obsO (ps : List PG) (ks : List LK) : List (List Int) × Bool := if (leastO ps ks).2.2 = true then (obsU ks (leastO ps ks).1 ks.length, true) else ([], false)
theorem obsU_len (H : List (List Int)) (j : Nat) : (obsU ks H j).length ≤ j := by
 induction j with
 | zero => exact Nat.le_refl _
 | succ j ih =>
  unfold obsU
  split
  ·simp; omega
  ·omega
theorem obsO_no (h : (leastO ps ks).2.2 = false) : obsO ps ks = ([], false) := by unfold obsO; rw [h, if_neg (by simp)]
theorem obsO_yes (h : (leastO ps ks).2.2 = true) : obsO ps ks = (obsU ks (leastO ps ks).1 ks.length, true) := by unfold obsO; rw [if_pos h]
theorem where_in (f : LK → Bool) (ks : List LK) (n : Nat) : ∀ x ∈ whereL f ks n, 0 ≤ x ∧ x < (n : Int) := by
 induction n with
 | zero => intro x hx; simp [whereL] at hx
 | succ n ih =>
  intro x hx
  unfold whereL at hx
  split at hx
  ·rcases List.mem_append.1 hx with h | h
   ·have := ih x h; omega
   ·rw [List.mem_singleton] at h; omega
  ·have := ih x hx; omega
theorem where_nodup (f : LK → Bool) (ks : List LK) (n : Nat) : (whereL f ks n).Nodup := by
 induction n with
 | zero => exact List.nodup_nil
 | succ n ih =>
  unfold whereL
  split
  ·rw [List.nodup_append]
   refine ⟨ih, by simp, fun a ha b hb => ?_⟩
   rw [List.mem_singleton] at hb
   have := where_in f ks n a ha
   omega
  ·exact ih
theorem where_map (H : List (List Int)) (n : Nat) : (whereL isOut ks n).map (fun i => H.getD i.toNat default) = obsU ks H n := by
 induction n with
 | zero => rfl
 | succ n ih =>
  unfold whereL obsU
  split
  ·rw [List.map_append, ih]; rfl
  ·exact ih
end
def cellT (t : Nat → Bool) (H : List (List Int)) : List (List A) := (List.range H.length).map fun i => if t i = true then [A.any] else ovL (H.getD i default)
section
variable {t t' : Nat → Bool} {H : List (List Int)}
theorem cellT_len : (cellT t H).length = H.length := by simp [cellT]
theorem pureLL_cellT (t : Nat → Bool) (H : List (List Int)) : pureLL (cellT t H) = true := pureLL_all (fun x => by
 split
 ·rfl
 ·simp [ovL, pureL, pureA, pureLL_iv]) (List.range H.length)
theorem cellT_ext (h : ∀ k < H.length, t k = t' k) : cellT t H = cellT t' H := by
 unfold cellT
 refine List.map_congr_left fun k hk => ?_
 rw [h k (List.mem_range.1 hk)]
theorem cellT_none (h : ∀ k < H.length, t k = false) : cellT t H = H.map ovL := by
 apply List.ext_getElem (by simp [cellT])
 intro k h1 h2
 have hk : k < H.length := by simpa [cellT] using h1
 simp [cellT, h k hk, List.getD_eq_getElem?_getD, hk]
theorem cellT_get {i : Nat} (hi : i < H.length) (h : t i = false) : (cellT t H)[i]? = some (ovL (H.getD i default)) := by
 unfold cellT
 rw [List.getElem?_map, List.getElem?_range hi]
 simp [h]
theorem cellT_set {i : Nat} : (cellT t H).set i [A.any] = cellT (fun k => t k || k == i) H := by
 apply List.ext_getElem (by simp [cellT])
 intro k h1 h2
 have hk : k < H.length := by simpa [cellT] using h2
 rw [List.getElem_set]
 by_cases e : i = k
 ·subst e
  simp [cellT]
 ·rw [if_neg e]
  have : ¬ k = i := Ne.symm e
  simp [cellT, this]
end
def tkL2 (OL : List Int) (j : Nat) (k : Nat) : Bool := (OL.take j).any fun y => y == (k : Int)
theorem tkL2_succ {OL : List Int} {j : Nat} (hj : j < OL.length) (h0 : 0 ≤ OL.getD j default) (k : Nat) : (tkL2 OL j k || k == (OL.getD j default).toNat) = tkL2 OL (j + 1) k := by
 unfold tkL2
 rw [← take_snoc hj, List.any_append]
 congr 1
 simp only [List.any_cons, List.any_nil, Bool.or_false]
 rw [Bool.eq_iff_iff]
 simp only [beq_iff_eq]
 omega
theorem tkL2_not {OL : List Int} (hn : OL.Nodup) {j : Nat} (hj : j < OL.length) (h0 : 0 ≤ OL.getD j default) : tkL2 OL j (OL.getD j default).toNat = false := by
 unfold tkL2
 rw [List.any_eq_false]
 intro y hy
 rw [beq_iff_eq, show (((OL.getD j default).toNat : Nat) : Int) = OL.getD j default by omega]
 intro e
 subst e
 obtain ⟨m, hm, e2⟩ := List.getElem_of_mem hy
 rw [List.length_take] at hm
 rw [List.getElem_take] at e2
 have e3 : OL.getD j default = OL[j] := by simp [List.getD_eq_getElem?_getD, hj]
 rw [e3] at e2
 rw [List.nodup_iff_pairwise_ne, List.pairwise_iff_getElem] at hn
 exact hn m j (by omega) hj (by omega) e2
section
variable {ps : List PG} {ks : List LK} {H : List (List Int)}
def waitK (ps : List PG) (ks : List LK) (H : List (List Int)) (k : Nat) : Int := if (runK ps ks H k).2.1 = 2 then onlyAt (isTo k (runK ps ks H k).2.2) ks else -1
def waitN (ps : List PG) (ks : List LK) (H : List (List Int)) (n : Nat) : List Int := (List.range n).map (waitK ps ks H)
def waitO (ps : List PG) (ks : List LK) : List Int × Bool := if (leastO ps ks).2.2 = true then (waitN ps ks (leastO ps ks).1 ps.length, true) else ([], false)
theorem waitN_len (n : Nat) : (waitN ps ks H n).length = n := by simp [waitN]
theorem waitN_succ (n : Nat) : waitN ps ks H n ++ [waitK ps ks H n] = waitN ps ks H (n + 1) := by simp [waitN, List.range_succ]
theorem waitO_no (h : (leastO ps ks).2.2 = false) : waitO ps ks = ([], false) := by unfold waitO; rw [h, if_neg (by simp)]
theorem waitO_yes (h : (leastO ps ks).2.2 = true) : waitO ps ks = (waitN ps ks (leastO ps ks).1 ps.length, true) := by unfold waitO; rw [if_pos h]
theorem goP_port {i o : Int} {l : List I4} {ins : List (List Int)} (hp : progOk i o l = true) (hi : IW i ins) : ∀ (n : Nat) (s : PS), PW i o l ins s → (goP l ins n s).2.1 = 2 → 0 ≤ (goP l ins n s).2.2 ∧ (goP l ins n s).2.2 < i
 | 0, s, h, hw => by
  unfold goP at hw ⊢
  split at hw
  ·rename_i hs
   rw [if_pos hs]
   exact h.read hp hw
  ·simp at hw
 | n + 1, s, h, hw => by
  unfold goP at hw ⊢
  split at hw
  ·rename_i hs
   rw [if_pos hs]
   exact h.read hp hw
  ·rename_i hs
   rw [if_neg hs]
   exact goP_port hp hi n _ (h.next hp hi (by simpa using hs)) hw
theorem run_port (hn : netOk ps ks = true) {p : Nat} (hp : p < ps.length) (hl : H.length = ks.length) (hall : H.all strOk = true) (hw : (runK ps ks H p).2.1 = 2) : 0 ≤ (runK ps ks H p).2.2 ∧ (runK ps ks H p).2.2 < (ps.getD p default).i := by
 have hi := insK_IW hn hp hl hall
 exact goP_port (pg_ok hn hp) hi (Int.toNat 3000) _ (PW.init (pg_ok hn hp) hi) hw
theorem run_link (hn : netOk ps ks = true) {p : Nat} (hp : p < ps.length) (hl : H.length = ks.length) (hall : H.all strOk = true) (hw : (runK ps ks H p).2.1 = 2) : linkToO ps ks p (runK ps ks H p).2.2 = (onlyAt (isTo p (runK ps ks H p).2.2) ks, true) := by
 obtain ⟨h0, h1⟩ := run_port hn hp hl hall hw
 refine toO_yes hn (hasP_iff.2 ⟨by omega, by omega⟩) ?_
 simp only [inR, Bool.and_eq_true, decide_eq_true_eq, Int.toNat_natCast]
 omega
end
end Go.Proofs.Ytimgfinlbhodhaa.Ab
