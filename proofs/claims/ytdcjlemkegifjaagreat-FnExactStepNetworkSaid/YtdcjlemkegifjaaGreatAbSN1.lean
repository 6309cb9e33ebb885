/- Walks of functions. -/
import Derived.Test.YtdcjlemkegifjaaGreatAbStepS
namespace Go.Proofs.YtdcjlemkegifjaaGreat.Ab
open Go
set_option linter.unusedVariables false
set_option linter.unusedSimpArgs false
set_option maxHeartbeats 4000000
theorem ok_l5Copy : Kn.ok Tryz.prog (kof [(48, q_l1Copy)]) := kof_cons k_l1Copy ((kof_nil _))
theorem l5Copy_ac (xs : List AT) (qs : List (List Int)) (hs : List (List Int)) (t : Int) (hc1 : xs.length ≤ 12) (hc2 : AW xs) (hc3 : qs.length ≤ 30) (hc4 : SW qs) (hc5 : hs.length ≤ 30) (hc6 : SW hs) : AC Tryz.prog 21 [.agg [.row false 2 (xs.map av), .row false 1 (qs.map ivL), .row false 1 (hs.map ivL), .int .i64 t]] (.agg [.row true 2 (xs.map oav), .row true 1 (qs.map ovL), .row true 1 (hs.map ovL), .int .i64 t]) := by
 have e_l1Copy := e_l1Copy
 have hivl := ivL_eq
 have hro := roLL_ovL
 have hpov := pureLL_ovL
 have hnov := noLoanLL_ovL
 have hfo : ∀ x : List (List Int), List.take x.length (x.map ovL) = x.map ovL := fun x => List.take_of_length_le (by simp)
 have hfoa : ∀ x : List AT, List.take x.length (x.map oav) = x.map oav := fun x => List.take_of_length_le (by simp)
 refine AC.of tab_ok Tryz.func21 rfl (Nat.le_of_ble_eq_true rfl) fun w0 S0 => ?_
 change G _ _ ⟨[(0, .agg [.row false 2 (xs.map av), .row false 1 (qs.map ivL), .row false 1 (hs.map ivL), .int .i64 t])], [], 63⟩
 apply G.seq
 refine G.rg tab_ok ok_l5Copy (hk := ?_)
 apply G.seq
 refine G.rg tab_ok ok_l5Copy (hk := ?_)
 refine G.focusNil 2 0 0 2 rfl rfl rfl ?_
 simp only [withH]
 refine G.focusNil 2 0 1 1 rfl rfl rfl ?_
 simp only [withH]
 refine G.focusNil 2 0 2 1 rfl rfl rfl ?_
 simp only [withH]
 apply G.seq
 apply G.seq
 refine G.rg tab_ok ok_l5Copy (hk := ?_)
 apply G.block
 refine G.nm [1, 2, 3, 14, 15, 16] (h := ?_)
 refine G.loopX (fun j : Nat => ⟨[(1, .ptr 0 0 0), (2, .ptr 1 0 0), (3, .ptr 2 0 0), (14, .row false 2 (xs.map av)), (15, .int .i64 xs.length), (16, .int .i64 j)], [some (4, [[.row false 2 (xs.map av), .row false 1 (qs.map ivL), .row false 1 (hs.map ivL), .int .i64 t]]), some (4, [[.nils, .nils, .nils, .int .i64 0]]), some (4, [[.sl 3 0 j, .sl 4 0 0, .sl 5 0 0, .int .i64 t]]), some (2, (xs.take j).map oav), some (1, []), some (1, [])], 63⟩) (fun j => j ≤ xs.length) (fun j => xs.length - j) (0) (Nat.zero_le _) (by simp) ?_
 intro j hj J hJ
 have hw : IntKind.i64.wrap ((j : Int) + 1) = (j : Int) + 1 := wrap64 (by omega) (by omega)
 apply G.seq
 refine G.rg tab_ok ok_l5Copy (hk := ?_)
 apply G.seq
 refine G.iff (h1 := fun h1 => ?_) (h2 := fun h1 => ?_)
 ·try simp only [zqz] at h1
  apply G.skip
  apply G.seq
  apply G.block
  apply G.seq
  have hjx : j < xs.length := by omega
  have hlr0 := hc2 j hjx
  have hlr : (xs.getD j default).rs.length ≤ 1048576 := by omega
  have hmj : min j xs.length = j := by omega
  have htk1 : List.take j ((xs.take j).map oav) = (xs.take j).map oav := List.take_of_length_le (by simp; omega)
  have htj : xs.take j ++ [xs.getD j default] = xs.take (j + 1) := take_snoc (by omega)
  have hq1 : ((j + 1 : Nat) : Int) ≤ 4611686018427387904 := by omega
  have hq2 : (j + 1) * 32 ≤ 70368744177664 := by omega
  refine G.rg tab_ok ok_l5Copy (hk := ?_)
  refine G.dr mixed tab_ok ok_l5Copy [0, 1, 2, 3, 4, 5, 6, 7, 8, 9, 10, 11] (hk := ?_)
  refine G.lastE 9 1 7 (f := oav) (l := xs.take j) (xs.getD j default) rfl rfl rfl (by decide) (by simp) (pureLL_iv _) rfl ?_
  rw [htj]
  apply G.blk
  refine G.rg tab_ok ok_l5Copy (hk := ?_)
  refine G.nm [1, 2, 3, 14, 15, 16] (h := ?_)
  exact G.upto (hJ (j + 1) (by omega) (by omega)) (by simp)
 ·try simp only [zqz] at h1
  refine G.exit rfl ?_
  apply G.seq
  apply G.seq
  refine G.rg tab_ok ok_l5Copy (hk := ?_)
  apply G.block
  obtain rfl : j = xs.length := by omega
  rw [List.take_length]
  clear hJ hj
  refine G.nm [1, 2, 3, 33, 34, 35] (h := ?_)
  refine G.loopX (fun j : Nat => ⟨[(1, .ptr 0 0 0), (2, .ptr 1 0 0), (3, .ptr 2 0 0), (33, .row false 1 (qs.map ivL)), (34, .int .i64 qs.length), (35, .int .i64 j)], [some (4, [[.row false 2 (xs.map av), .row false 1 (qs.map ivL), .row false 1 (hs.map ivL), .int .i64 t]]), some (4, [[.nils, .nils, .nils, .int .i64 0]]), some (4, [[.sl 3 0 xs.length, .sl 4 0 j, .sl 5 0 0, .int .i64 t]]), some (2, xs.map oav), some (1, (qs.take j).map ovL), some (1, [])], 63⟩) (fun j => j ≤ qs.length) (fun j => qs.length - j) (0) (Nat.zero_le _) (by simp) ?_
  intro j hj J hJ
  have hw : IntKind.i64.wrap ((j : Int) + 1) = (j : Int) + 1 := wrap64 (by omega) (by omega)
  apply G.seq
  refine G.rg tab_ok ok_l5Copy (hk := ?_)
  apply G.seq
  refine G.iff (h1 := fun h2 => ?_) (h2 := fun h2 => ?_)
  ·try simp only [zqz] at h2
   apply G.skip
   apply G.seq
   apply G.block
   apply G.seq
   have hjq : j < qs.length := by omega
   have hlr0 := hc4 j hjq
   have hlr : (qs.getD j default).length ≤ 1048576 := by omega
   have hmj : min j qs.length = j := by omega
   have htk1 : List.take j ((qs.take j).map ovL) = (qs.take j).map ovL := List.take_of_length_le (by simp; omega)
   have htj : qs.take j ++ [qs.getD j default] = qs.take (j + 1) := take_snoc (by omega)
   have hq1 : ((j + 1 : Nat) : Int) ≤ 4611686018427387904 := by omega
   have hq2 : (j + 1) * 24 ≤ 70368744177664 := by omega
   refine G.rg tab_ok ok_l5Copy (hk := ?_)
   refine G.dr mixed tab_ok ok_l5Copy [0, 1, 2, 3, 4, 5, 6, 7] (hk := ?_)
   refine G.lastE 8 0 6 (f := ovL) (l := qs.take j) (qs.getD j default) rfl rfl rfl (by decide) (by simp) (pureLL_iv _) rfl ?_
   rw [htj]
   apply G.blk
   refine G.rg tab_ok ok_l5Copy (hk := ?_)
   refine G.nm [1, 2, 3, 33, 34, 35] (h := ?_)
   exact G.upto (hJ (j + 1) (by omega) (by omega)) (by simp)
  ·try simp only [zqz] at h2
   refine G.exit rfl ?_
   apply G.seq
   apply G.seq
   refine G.rg tab_ok ok_l5Copy (hk := ?_)
   apply G.block
   obtain rfl : j = qs.length := by omega
   rw [List.take_length]
   clear hJ hj
   refine G.nm [1, 2, 3, 48, 49, 50] (h := ?_)
   refine G.loopX (fun j : Nat => ⟨[(1, .ptr 0 0 0), (2, .ptr 1 0 0), (3, .ptr 2 0 0), (48, .row false 1 (hs.map ivL)), (49, .int .i64 hs.length), (50, .int .i64 j)], [some (4, [[.row false 2 (xs.map av), .row false 1 (qs.map ivL), .row false 1 (hs.map ivL), .int .i64 t]]), some (4, [[.nils, .nils, .nils, .int .i64 0]]), some (4, [[.sl 3 0 xs.length, .sl 4 0 qs.length, .sl 5 0 j, .int .i64 t]]), some (2, xs.map oav), some (1, qs.map ovL), some (1, (hs.take j).map ovL)], 63⟩) (fun j => j ≤ hs.length) (fun j => hs.length - j) (0) (Nat.zero_le _) (by simp) ?_
   intro j hj J hJ
   have hw : IntKind.i64.wrap ((j : Int) + 1) = (j : Int) + 1 := wrap64 (by omega) (by omega)
   apply G.seq
   refine G.rg tab_ok ok_l5Copy (hk := ?_)
   apply G.seq
   refine G.iff (h1 := fun h3 => ?_) (h2 := fun h3 => ?_)
   ·try simp only [zqz] at h3
    apply G.skip
    apply G.seq
    apply G.block
    apply G.seq
    have hjh : j < hs.length := by omega
    have hlr0 := hc6 j hjh
    have hlr : (hs.getD j default).length ≤ 1048576 := by omega
    have hmj : min j hs.length = j := by omega
    have htk1 : List.take j ((hs.take j).map ovL) = (hs.take j).map ovL := List.take_of_length_le (by simp; omega)
    have htj : hs.take j ++ [hs.getD j default] = hs.take (j + 1) := take_snoc (by omega)
    have hq1 : ((j + 1 : Nat) : Int) ≤ 4611686018427387904 := by omega
    have hq2 : (j + 1) * 24 ≤ 70368744177664 := by omega
    refine G.rg tab_ok ok_l5Copy (hk := ?_)
    refine G.dr mixed tab_ok ok_l5Copy [0, 1, 2, 3, 4, 5, 6, 7] (hk := ?_)
    refine G.lastE 8 0 6 (f := ovL) (l := hs.take j) (hs.getD j default) rfl rfl rfl (by decide) (by simp) (pureLL_iv _) rfl ?_
    rw [htj]
    apply G.blk
    refine G.rg tab_ok ok_l5Copy (hk := ?_)
    refine G.nm [1, 2, 3, 48, 49, 50] (h := ?_)
    exact G.upto (hJ (j + 1) (by omega) (by omega)) (by simp)
   ·try simp only [zqz] at h3
    refine G.exit rfl ?_
    apply G.seq
    refine G.rg tab_ok ok_l5Copy (hk := ?_)
    obtain rfl : j = hs.length := by omega
    rw [List.take_length]
    refine G.fin tab_ok (hr := ?_)
    rfl
def r_l5Copy (xs0 : List A) (rr : A) : Prop := ∃ (xs : List AT) (qs : List (List Int)) (hs : List (List Int)) (t : Int), (xs.length ≤ 12) ∧ (AW xs) ∧ (qs.length ≤ 30) ∧ (SW qs) ∧ (hs.length ≤ 30) ∧ (SW hs) ∧ xs0 = [.agg [.row false 2 (xs.map av), .row false 1 (qs.map ivL), .row false 1 (hs.map ivL), .int .i64 t]] ∧ rr = .agg [.row true 2 (xs.map oav), .row true 1 (qs.map ovL), .row true 1 (hs.map ovL), .int .i64 t]
noncomputable def q_l5Copy : List A → Option A := kgr r_l5Copy
theorem k_l5Copy : KOk Tryz.prog (21, q_l5Copy) := kgr_ok (enters_of Tryz.func21 rfl rfl) (by rintro xs0 rr ⟨xs, qs, hs, t, hc1, hc2, hc3, hc4, hc5, hc6, rfl, rfl⟩; exact l5Copy_ac xs qs hs t hc1 hc2 hc3 hc4 hc5 hc6)
theorem e_l5Copy : ∀ (xs : List AT) (qs : List (List Int)) (hs : List (List Int)) (t : Int), (xs.length ≤ 12) → (AW xs) → (qs.length ≤ 30) → (SW qs) → (hs.length ≤ 30) → (SW hs) → q_l5Copy [.agg [.row false 2 (xs.map av), .row false 1 (qs.map ivL), .row false 1 (hs.map ivL), .int .i64 t]] = some (.agg [.row true 2 (xs.map oav), .row true 1 (qs.map ovL), .row true 1 (hs.map ovL), .int .i64 t]) := by
 intro xs qs hs t hc1 hc2 hc3 hc4 hc5 hc6
 refine kgr_eq (fun xs0 rr r2 h h2 => ?_) ⟨xs, qs, hs, t, hc1, hc2, hc3, hc4, hc5, hc6, rfl, rfl⟩
 obtain ⟨xs1, qs1, hs1, t1, _, _, _, _, _, _, e1, rfl⟩ := h; obtain ⟨xs2, qs2, hs2, t2, _, _, _, _, _, _, e2, rfl⟩ := h2
 rw [e1] at e2
 simp only [List.cons.injEq, A.int.injEq, A.agg.injEq, A.row.injEq, av_inj, ivL_inj, true_and, and_true] at e2
 obtain ⟨e3, e4, e5, e6⟩ := e2
 subst e3 e4 e5 e6
 rfl
end Go.Proofs.YtdcjlemkegifjaaGreat.Ab
