/- Walks of functions. -/
import Derived.Test.YtimgfinlbhodhaaFwGf
import Derived.Test.YtimgfinlbhodhaaFwGe
namespace Go.Proofs.Ytimgfinlbhodhaa.Ab
open Go
set_option linter.unusedVariables false
set_option linter.unusedSimpArgs false
set_option maxHeartbeats 4000000
theorem ok_implStartState : Kn.ok Try.prog (kof [(70, q_implIsNetwork), (32, q_implNewActor), (71, q_cloneInt)]) := kof_cons k_implIsNetwork (kof_cons k_implNewActor (kof_cons k_cloneInt ((kof_nil _))))
theorem implStartState_ac (ps : List PG) (ks : List LK) (hc1 : NW ps) (hc2 : KW ks) (hc3 : ps.length < 3518437208781) (hc4 : ks.length < 2513169434844) : AC Try.prog 14 [.agg [.row false 3 (ps.map pv), .row false 5 (ks.map kv)]] (.agg [.row true 2 ((startO ps ks).xs.map oav), .row true 1 ((startO ps ks).qs.map ovL), .row true 1 ((startO ps ks).hs.map ovL), .int .i64 (startO ps ks).t]) := by
 have e_implIsNetwork := e_implIsNetwork
 have e_implNewActor := e_implNewActor
 have e_cloneInt := e_cloneInt
 have hivl := ivL_eq
 have hro := roLL_ovL
 have hpov := pureLL_ovL
 have hnov := noLoanLL_ovL
 refine AC.of tab_ok Try.func14 rfl (Nat.le_of_ble_eq_true rfl) fun w0 S0 => ?_
 change G _ _ ⟨[(0, .agg [.row false 3 (ps.map pv), .row false 5 (ks.map kv)])], [], 53⟩
 apply G.seq
 refine G.rg tab_ok ok_implStartState (hk := ?_)
 apply G.seq
 apply G.seq
 refine G.rg tab_ok ok_implStartState (hk := ?_)
 refine G.iff (h1 := fun h1 => ?_) (h2 := fun h1 => ?_)
 ·try simp only [zqz] at h1
  apply G.seq
  refine G.rg tab_ok ok_implStartState (hk := ?_)
  refine G.focusNil 1 0 0 2 rfl rfl rfl ?_
  simp only [withH]
  refine G.focusNil 1 0 1 1 rfl rfl rfl ?_
  simp only [withH]
  refine G.focusNil 1 0 2 1 rfl rfl rfl ?_
  simp only [withH]
  refine G.fin tab_ok (hr := ?_)
  simp only [oneOrTup, startO, h1]
  rfl
 ·try simp only [zqz] at h1
  apply G.skip
  apply G.seq
  have hn1 : netOk ps ks = true := h1
  have hsm := net_small hn1
  have hp12 := (netOk_w hn1).pl
  have hk30 := (netOk_w hn1).kl
  refine G.rg tab_ok ok_implStartState (hk := ?_)
  refine G.focusNil 2 0 0 2 rfl rfl rfl ?_
  simp only [withH]
  refine G.focusNil 2 0 1 1 rfl rfl rfl ?_
  simp only [withH]
  refine G.focusNil 2 0 2 1 rfl rfl rfl ?_
  simp only [withH]
  apply G.seq
  apply G.seq
  refine G.rg tab_ok ok_implStartState (hk := ?_)
  apply G.block
  refine G.nm [1, 2, 3, 14, 15, 16] (h := ?_)
  refine G.loopX (fun j : Nat => ⟨[(1, .ptr 0 0 0), (2, .ptr 1 0 0), (3, .ptr 2 0 0), (14, .row false 3 (ps.map pv)), (15, .int .i64 ps.length), (16, .int .i64 j)], [some (2, [[.row false 3 (ps.map pv), .row false 5 (ks.map kv)]]), some (4, [[.nils, .nils, .nils, .int .i64 0]]), some (4, [[.sl 3 0 j, .sl 4 0 0, .sl 5 0 0, .int .i64 0]]), some (2, (actN j).map oav), some (1, []), some (1, [])], 53⟩) (fun j => j ≤ ps.length) (fun j => ps.length - j) (0) (Nat.zero_le _) (by simp [actN]) ?_
  intro j hj J hJ
  have hw : IntKind.i64.wrap ((j : Int) + 1) = (j : Int) + 1 := wrap64 (by omega) (by omega)
  apply G.seq
  refine G.rg tab_ok ok_implStartState (hk := ?_)
  apply G.seq
  refine G.iff (h1 := fun h2 => ?_) (h2 := fun h2 => ?_)
  ·try simp only [zqz] at h2
   apply G.skip
   apply G.seq
   apply G.block
   apply G.seq
   have hal := actN_len j
   have hla : List.take j ((actN j).map oav) = (actN j).map oav := List.take_of_length_le (by simp [actN_len])
   have hr0 := regs_ok hn1 (j := j) (by omega)
   have hlr : (ps.getD j default).l.length < 4398046511104 := by have := hsm.1 j (by omega); omega
   have hq1 : ((j + 1 : Nat) : Int) ≤ 4611686018427387904 := by omega
   have hq2 : (j + 1) * 32 ≤ 70368744177664 := by omega
   refine G.rg tab_ok ok_implStartState (hk := ?_)
   refine G.dr mixed tab_ok ok_implStartState [0, 1, 2, 3, 4, 5, 6, 7] (hk := ?_)
   refine G.lastE 9 1 7 (f := oav) (l := actN j) ⟨0, [0, 0, 0, 0]⟩ rfl rfl rfl (by decide) rfl rfl rfl ?_
   rw [actN_succ]
   apply G.blk
   refine G.rg tab_ok ok_implStartState (hk := ?_)
   refine G.nm [1, 2, 3, 14, 15, 16] (h := ?_)
   exact G.upto (hJ (j + 1) (by omega) (by omega)) (by simp)
  ·try simp only [zqz] at h2
   refine G.exit rfl ?_
   apply G.seq
   apply G.seq
   refine G.rg tab_ok ok_implStartState (hk := ?_)
   apply G.block
   obtain rfl : j = ps.length := by omega
   clear hJ
   refine G.nm [2, 3, 29, 30, 31] (h := ?_)
   refine G.loopX (fun j : Nat => ⟨[(2, .ptr 0 0 0), (3, .ptr 1 0 0), (29, .row false 5 (ks.map kv)), (30, .int .i64 ks.length), (31, .int .i64 j)], [some (4, [[.nils, .nils, .nils, .int .i64 0]]), some (4, [[.sl 2 0 ps.length, .sl 3 0 j, .sl 4 0 j, .int .i64 0]]), some (2, (actN ps.length).map oav), some (1, ((tkL ks).take j).map ovL), some (1, ((tkL ks).take j).map ovL)], 53⟩) (fun j => j ≤ ks.length) (fun j => ks.length - j) (0) (Nat.zero_le _) (by simp) ?_
   intro j hj J hJ
   have hw : IntKind.i64.wrap ((j : Int) + 1) = (j : Int) + 1 := wrap64 (by omega) (by omega)
   apply G.seq
   refine G.rg tab_ok ok_implStartState (hk := ?_)
   apply G.seq
   refine G.iff (h1 := fun h3 => ?_) (h2 := fun h3 => ?_)
   ·try simp only [zqz] at h3
    apply G.skip
    apply G.seq
    apply G.block
    apply G.seq
    have hmj : min j (tkL ks).length = j := by rw [tkL_len]; omega
    have htk1 : List.take j (((tkL ks).take j).map ovL) = ((tkL ks).take j).map ovL := List.take_of_length_le (by simp; omega)
    have htj := tkL_snoc (ks := ks) (j := j) (by omega)
    have hlr : (ks.getD j default).tk.length ≤ 1048576 := by have := hsm.2 j (by omega); omega
    have hq1 : ((j + 1 : Nat) : Int) ≤ 4611686018427387904 := by omega
    have hq2 : (j + 1) * 24 ≤ 70368744177664 := by omega
    refine G.rg tab_ok ok_implStartState (hk := ?_)
    apply G.seq
    refine G.dr mixed tab_ok ok_implStartState [0, 1, 2, 3, 4, 5, 6, 7, 8] (hk := ?_)
    refine G.lastE 8 0 6 (f := ovL) (l := (tkL ks).take j) ((ks.getD j default).tk) rfl rfl rfl (by decide) (by simp) (pureLL_iv _) rfl ?_
    rw [htj]
    refine G.dr mixed tab_ok ok_implStartState [0, 1, 2, 3, 4, 5, 6, 7, 8] (hk := ?_)
    refine G.lastE 11 0 9 (f := ovL) (l := (tkL ks).take j) ((ks.getD j default).tk) rfl rfl rfl (by decide) (by simp) (pureLL_iv _) rfl ?_
    rw [htj]
    apply G.blk
    refine G.rg tab_ok ok_implStartState (hk := ?_)
    refine G.nm [2, 3, 29, 30, 31] (h := ?_)
    exact G.upto (hJ (j + 1) (by omega) (by omega)) (by simp)
   ·try simp only [zqz] at h3
    refine G.exit rfl ?_
    apply G.seq
    refine G.rg tab_ok ok_implStartState (hk := ?_)
    obtain rfl : j = ks.length := by omega
    have hft : List.take ks.length (tkL ks) = tkL ks := List.take_of_length_le (by rw [tkL_len]; exact Nat.le_refl _)
    rw [hft]
    have hal : ps.length ≤ (actN ps.length).length := by rw [actN_len]; exact Nat.le_refl _
    have hla : List.take ps.length ((actN ps.length).map oav) = (actN ps.length).map oav := List.take_of_length_le (by simp [actN_len])
    have hft2 : List.take ks.length ((tkL ks).map ovL) = (tkL ks).map ovL := List.take_of_length_le (by simp [tkL_len])
    have hl1 : ks.length ≤ (tkL ks).length := by rw [tkL_len]; exact Nat.le_refl _
    refine G.fin tab_ok (hr := ?_)
    simp only [oneOrTup, startO, hn1, if_true]
def r_implStartState (xs0 : List A) (rr : A) : Prop := ∃ (ps : List PG) (ks : List LK), (NW ps) ∧ (KW ks) ∧ (ps.length < 3518437208781) ∧ (ks.length < 2513169434844) ∧ xs0 = [.agg [.row false 3 (ps.map pv), .row false 5 (ks.map kv)]] ∧ rr = .agg [.row true 2 ((startO ps ks).xs.map oav), .row true 1 ((startO ps ks).qs.map ovL), .row true 1 ((startO ps ks).hs.map ovL), .int .i64 (startO ps ks).t]
noncomputable def q_implStartState : List A → Option A := kgr r_implStartState
theorem k_implStartState : KOk Try.prog (14, q_implStartState) := kgr_ok (enters_of Try.func14 rfl rfl) (by rintro xs0 rr ⟨ps, ks, hc1, hc2, hc3, hc4, rfl, rfl⟩; exact implStartState_ac ps ks hc1 hc2 hc3 hc4)
theorem e_implStartState : ∀ (ps : List PG) (ks : List LK), (NW ps) → (KW ks) → (ps.length < 3518437208781) → (ks.length < 2513169434844) → q_implStartState [.agg [.row false 3 (ps.map pv), .row false 5 (ks.map kv)]] = some (.agg [.row true 2 ((startO ps ks).xs.map oav), .row true 1 ((startO ps ks).qs.map ovL), .row true 1 ((startO ps ks).hs.map ovL), .int .i64 (startO ps ks).t]) := by
 intro ps ks hc1 hc2 hc3 hc4
 refine kgr_eq (fun xs0 rr r2 h h2 => ?_) ⟨ps, ks, hc1, hc2, hc3, hc4, rfl, rfl⟩
 obtain ⟨ps1, ks1, _, _, _, _, e1, rfl⟩ := h; obtain ⟨ps2, ks2, _, _, _, _, e2, rfl⟩ := h2
 rw [e1] at e2
 simp only [List.cons.injEq, A.int.injEq, A.bool.injEq, A.agg.injEq, A.row.injEq, pv_inj, kv_inj, true_and, and_true] at e2
 obtain ⟨e3, e4⟩ := e2
 subst e3 e4
 rfl
end Go.Proofs.Ytimgfinlbhodhaa.Ab
