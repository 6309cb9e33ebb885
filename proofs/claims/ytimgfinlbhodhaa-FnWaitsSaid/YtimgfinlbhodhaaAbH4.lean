/- Walks of functions. -/
import Derived.Test.YtimgfinlbhodhaaFwGe
namespace Go.Proofs.Ytimgfinlbhodhaa.Ab
open Go
set_option linter.unusedVariables false
set_option linter.unusedSimpArgs false
set_option maxHeartbeats 4000000
theorem outputs1_ac (fr : Int) (ou : Int) (to : Int) (ip : Int) (tk : List Int)  : AC Try.prog 123 [.agg [.int .i64 fr, .int .i64 ou, .int .i64 to, .int .i64 ip, .row false 1 (tk.map iv)]] (.bool (isOut ⟨fr, ou, to, ip, tk⟩)) := by
 refine AC.of tab_ok Try.func123 rfl (Nat.le_of_ble_eq_true rfl) fun w0 S0 => ?_
 change G _ _ ⟨[(0, .agg [.int .i64 fr, .int .i64 ou, .int .i64 to, .int .i64 ip, .row false 1 (tk.map iv)])], [], 6⟩
 apply G.seq
 refine G.rg tab_ok (kof_nil _) (hk := ?_)
 apply G.seq
 refine G.rg tab_ok (kof_nil _) (hk := ?_)
 refine G.fin tab_ok (hr := ?_)
 rfl
def r_outputs1 (xs0 : List A) (rr : A) : Prop := ∃ (fr : Int) (ou : Int) (to : Int) (ip : Int) (tk : List Int), xs0 = [.agg [.int .i64 fr, .int .i64 ou, .int .i64 to, .int .i64 ip, .row false 1 (tk.map iv)]] ∧ rr = .bool (isOut ⟨fr, ou, to, ip, tk⟩)
noncomputable def q_outputs1 : List A → Option A := kgr r_outputs1
theorem k_outputs1 : KOk Try.prog (123, q_outputs1) := kgr_ok (enters_of Try.func123 rfl rfl) (by rintro xs0 rr ⟨fr, ou, to, ip, tk, rfl, rfl⟩; exact outputs1_ac fr ou to ip tk)
theorem e_outputs1 : ∀ (fr : Int) (ou : Int) (to : Int) (ip : Int) (tk : List Int), q_outputs1 [.agg [.int .i64 fr, .int .i64 ou, .int .i64 to, .int .i64 ip, .row false 1 (tk.map iv)]] = some (.bool (isOut ⟨fr, ou, to, ip, tk⟩)) := by
 intro fr ou to ip tk
 refine kgr_eq (fun xs0 rr r2 h h2 => ?_) ⟨fr, ou, to, ip, tk, rfl, rfl⟩
 obtain ⟨fr1, ou1, to1, ip1, tk1, e1, rfl⟩ := h; obtain ⟨fr2, ou2, to2, ip2, tk2, e2, rfl⟩ := h2
 rw [e1] at e2
 simp only [List.cons.injEq, A.int.injEq, A.bool.injEq, A.agg.injEq, A.row.injEq, A.fn.injEq, A.rp.injEq, insv_inj, iv_inj, true_and, and_true] at e2
 simp [e2]
theorem ok_whereOut : Kn.ok Try.prog (kof [(123, q_outputs1)]) := kof_cons k_outputs1 ((kof_nil _))
theorem whereOut_ac (ps : List PG) (ks : List LK) (hc1 : ks.length ≤ 30) : AC Try.prog 121 [.agg [.row false 3 (ps.map pv), .row false 5 (ks.map kv)], .fn 123 []] (.row true 1 ((whereL isOut ks ks.length).map iv)) := by
 have e_outputs1 := e_outputs1
 have hfiv : ∀ x : List Int, List.take x.length (List.map iv x) = List.map iv x := fun x => List.take_of_length_le (by simp)
 refine AC.of tab_ok Try.func121 rfl (Nat.le_of_ble_eq_true rfl) fun w0 S0 => ?_
 change G _ _ ⟨[(0, .agg [.row false 3 (ps.map pv), .row false 5 (ks.map kv)]), (1, .fn 123 [])], [], 26⟩
 apply G.seq
 refine G.rg tab_ok ok_whereOut (hk := ?_)
 apply G.seq
 refine G.rg tab_ok ok_whereOut (hk := ?_)
 apply G.seq
 apply G.seq
 refine G.rg tab_ok ok_whereOut (hk := ?_)
 apply G.block
 refine G.nm [1, 5, 10, 11, 12] (h := ?_)
 refine G.loopX (fun j : Nat => ⟨[(1, .fn 123 []), (5, .sl 0 0 (whereL isOut ks j).length), (10, .row false 5 (ks.map kv)), (11, .int .i64 ks.length), (12, .int .i64 j)], [some (1, (whereL isOut ks j).map iv)], 26⟩) (fun j => j ≤ ks.length) (fun j => ks.length - j) (0) (Nat.zero_le _) (by simp [whereL]) ?_
 intro j hj J hJ
 have hw : IntKind.i64.wrap ((j : Int) + 1) = (j : Int) + 1 := wrap64 (by omega) (by omega)
 apply G.seq
 refine G.rg tab_ok ok_whereOut (hk := ?_)
 apply G.seq
 refine G.iff (h1 := fun h1 => ?_) (h2 := fun h1 => ?_)
 ·try simp only [zqz] at h1
  apply G.skip
  apply G.seq
  apply G.block
  apply G.seq
  refine G.rg tab_ok ok_whereOut (hk := ?_)
  apply G.seq
  refine G.rg tab_ok ok_whereOut (hk := ?_)
  refine G.fg [1, 5, 6, 10, 11, 12, 19] (hk := ?_)
  refine G.iff (h1 := fun h2 => ?_) (h2 := fun h2 => ?_)
  ·try simp only [zqz] at h2
   have hql := whereL_len isOut ks j
   have hq1 : (((whereL isOut ks j).length + 1 : Nat) : Int) ≤ 4611686018427387904 := by omega
   have hq2 : ((whereL isOut ks j).length + 1) * 8 ≤ 70368744177664 := by omega
   have hfiv : ∀ x : List Int, List.take x.length (List.map iv x) = List.map iv x := fun x => List.take_of_length_le (by simp)
   refine G.rg tab_ok ok_whereOut (hk := ?_)
   apply G.blk
   refine G.rg tab_ok ok_whereOut (hk := ?_)
   refine G.nm [1, 5, 10, 11, 12] (h := ?_)
   have hwl : whereL isOut ks (j + 1) = if isOut (ks.getD j default) = true then whereL isOut ks j ++ [(j : Int)] else whereL isOut ks j := rfl
   first
   | exact G.upto (hJ (j + 1) (by omega) (by omega)) (by rw [hwl, if_pos (by first | exact h2 | (simp only [isOut, beq_iff_eq]; exact h2))]; simp [iv])
   | exact G.upto (hJ (j + 1) (by omega) (by omega)) (by rw [hwl, if_neg (by first | (rw [Bool.not_eq_true]; exact h2) | (simp only [isOut, beq_iff_eq]; exact h2))]; simp)
  ·try simp only [zqz] at h2
   apply G.skip
   apply G.blk
   refine G.rg tab_ok ok_whereOut (hk := ?_)
   refine G.nm [1, 5, 10, 11, 12] (h := ?_)
   have hwl : whereL isOut ks (j + 1) = if isOut (ks.getD j default) = true then whereL isOut ks j ++ [(j : Int)] else whereL isOut ks j := rfl
   first
   | exact G.upto (hJ (j + 1) (by omega) (by omega)) (by rw [hwl, if_pos (by first | exact h2 | (simp only [isOut, beq_iff_eq]; exact h2))]; simp [iv])
   | exact G.upto (hJ (j + 1) (by omega) (by omega)) (by rw [hwl, if_neg (by first | (rw [Bool.not_eq_true]; exact h2) | (simp only [isOut, beq_iff_eq]; exact h2))]; simp)
 ·try simp only [zqz] at h1
  refine G.exit rfl ?_
  apply G.seq
  refine G.rg tab_ok ok_whereOut (hk := ?_)
  refine G.fin tab_ok (hr := ?_)
  obtain rfl : j = ks.length := by omega
  simp only [hfiv, oneOrTup]
def r_whereOut (xs0 : List A) (rr : A) : Prop := ∃ (ps : List PG) (ks : List LK), (ks.length ≤ 30) ∧ xs0 = [.agg [.row false 3 (ps.map pv), .row false 5 (ks.map kv)], .fn 123 []] ∧ rr = .row true 1 ((whereL isOut ks ks.length).map iv)
noncomputable def q_whereOut : List A → Option A := kgr r_whereOut
theorem k_whereOut : KOk Try.prog (121, q_whereOut) := kgr_ok (enters_of Try.func121 rfl rfl) (by rintro xs0 rr ⟨ps, ks, hc1, rfl, rfl⟩; exact whereOut_ac ps ks hc1)
theorem e_whereOut : ∀ (ps : List PG) (ks : List LK), (ks.length ≤ 30) → q_whereOut [.agg [.row false 3 (ps.map pv), .row false 5 (ks.map kv)], .fn 123 []] = some (.row true 1 ((whereL isOut ks ks.length).map iv)) := by
 intro ps ks hc1
 refine kgr_eq (fun xs0 rr r2 h h2 => ?_) ⟨ps, ks, hc1, rfl, rfl⟩
 obtain ⟨ps1, ks1, _, e1, rfl⟩ := h; obtain ⟨ps2, ks2, _, e2, rfl⟩ := h2
 rw [e1] at e2
 simp only [List.cons.injEq, A.int.injEq, A.bool.injEq, A.agg.injEq, A.row.injEq, pv_inj, kv_inj, true_and, and_true] at e2
 obtain ⟨e3, e4⟩ := e2
 subst e3 e4
 rfl
theorem ok_implOutputsOf : Kn.ok Try.prog (kof [(70, q_implIsNetwork), (121, q_whereOut)]) := kof_cons k_implIsNetwork (kof_cons k_whereOut ((kof_nil _)))
theorem implOutputsOf_ac (ps : List PG) (ks : List LK) (hc1 : NW ps) (hc2 : KW ks) (hc3 : ps.length < 3518437208781) (hc4 : ks.length < 2513169434844) : AC Try.prog 46 [.agg [.row false 3 (ps.map pv), .row false 5 (ks.map kv)]] (.row true 1 ((putsO isOut ps ks).map iv)) := by
 have e_implIsNetwork := e_implIsNetwork
 have e_whereOut := e_whereOut
 refine AC.of tab_ok Try.func46 rfl (Nat.le_of_ble_eq_true rfl) fun w0 S0 => ?_
 change G _ _ ⟨[(0, .agg [.row false 3 (ps.map pv), .row false 5 (ks.map kv)])], [], 8⟩
 apply G.seq
 refine G.rg tab_ok ok_implOutputsOf (hk := ?_)
 apply G.seq
 apply G.seq
 refine G.rg tab_ok ok_implOutputsOf (hk := ?_)
 refine G.iff (h1 := fun h1 => ?_) (h2 := fun h1 => ?_)
 ·try simp only [zqz] at h1
  apply G.seq
  refine G.rg tab_ok ok_implOutputsOf (hk := ?_)
  refine G.nilRow 2 1 rfl ?_
  refine G.fin tab_ok (hr := ?_)
  simp only [oneOrTup, putsO, h1]
  rfl
 ·try simp only [zqz] at h1
  apply G.skip
  apply G.seq
  have hn1 : netOk ps ks = true := h1
  have hkl := (netOk_w hn1).kl
  refine G.rg tab_ok ok_implOutputsOf (hk := ?_)
  refine G.fin tab_ok (hr := ?_)
  simp only [oneOrTup, putsO, hn1, if_true, List.take_of_length_le, List.length_map, Nat.le_refl]
def r_implOutputsOf (xs0 : List A) (rr : A) : Prop := ∃ (ps : List PG) (ks : List LK), (NW ps) ∧ (KW ks) ∧ (ps.length < 3518437208781) ∧ (ks.length < 2513169434844) ∧ xs0 = [.agg [.row false 3 (ps.map pv), .row false 5 (ks.map kv)]] ∧ rr = .row true 1 ((putsO isOut ps ks).map iv)
noncomputable def q_implOutputsOf : List A → Option A := kgr r_implOutputsOf
theorem k_implOutputsOf : KOk Try.prog (46, q_implOutputsOf) := kgr_ok (enters_of Try.func46 rfl rfl) (by rintro xs0 rr ⟨ps, ks, hc1, hc2, hc3, hc4, rfl, rfl⟩; exact implOutputsOf_ac ps ks hc1 hc2 hc3 hc4)
theorem e_implOutputsOf : ∀ (ps : List PG) (ks : List LK), (NW ps) → (KW ks) → (ps.length < 3518437208781) → (ks.length < 2513169434844) → q_implOutputsOf [.agg [.row false 3 (ps.map pv), .row false 5 (ks.map kv)]] = some (.row true 1 ((putsO isOut ps ks).map iv)) := by
 intro ps ks hc1 hc2 hc3 hc4
 refine kgr_eq (fun xs0 rr r2 h h2 => ?_) ⟨ps, ks, hc1, hc2, hc3, hc4, rfl, rfl⟩
 obtain ⟨ps1, ks1, _, _, _, _, e1, rfl⟩ := h; obtain ⟨ps2, ks2, _, _, _, _, e2, rfl⟩ := h2
 rw [e1] at e2
 simp only [List.cons.injEq, A.int.injEq, A.bool.injEq, A.agg.injEq, A.row.injEq, pv_inj, kv_inj, true_and, and_true] at e2
 obtain ⟨e3, e4⟩ := e2
 subst e3 e4
 rfl
-- not in this seat: specOutputsOf
end Go.Proofs.Ytimgfinlbhodhaa.Ab
