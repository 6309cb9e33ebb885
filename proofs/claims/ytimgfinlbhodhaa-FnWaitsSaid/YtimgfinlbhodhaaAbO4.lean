/- Walks of functions. -/
import Derived.Test.YtimgfinlbhodhaaAbObs
import Derived.Test.YtimgfinlbhodhaaFwGj
import Derived.Test.YtimgfinlbhodhaaAbH4
namespace Go.Proofs.Ytimgfinlbhodhaa.Ab
open Go
set_option linter.unusedVariables false
set_option linter.unusedSimpArgs false
set_option maxHeartbeats 4000000
theorem ok_implWaitsOf : Kn.ok Try.prog (kof [(24, q_implLeastStreams), (126, q_inputsFor), (98, q_implAlone), (17, q_implLinkTo)]) := kof_cons k_implLeastStreams (kof_cons k_inputsFor (kof_cons k_implAlone (kof_cons k_implLinkTo ((kof_nil _)))))
theorem implWaitsOf_ac (ps : List PG) (ks : List LK) (hc1 : NW ps) (hc2 : KW ks) (hc3 : ps.length < 3518437208781) (hc4 : ks.length < 2513169434844) : AC Try.prog 50 [.agg [.row false 3 (ps.map pv), .row false 5 (ks.map kv)]] (.tup [.row true 1 ((waitO ps ks).1.map iv), .bool (waitO ps ks).2]) := by
  have e_implLeastStreams := e_implLeastStreams
  have e_inputsFor := e_inputsFor
  have e_implAlone := e_implAlone
  have e_implLinkTo := e_implLinkTo
  clear e_implAlone
  have hivl := ivL_eq
  have hro := roLL_ovL
  have hpov := pureLL_ovL
  have hnov := noLoanLL_ovL
  have hpct := pureLL_cellT
  have hriv := roLL_ivL
  have hpiv := pureLL_ivL
  have hfou : ∀ x : List (List Int), List.take x.length (List.map ovL x) = List.map ovL x := fun x => List.take_of_length_le (by simp)
  obtain ⟨L, hL⟩ : ∃ x, leastO ps ks = x := ⟨_, rfl⟩
  obtain ⟨H, c, b⟩ := L
  refine AC.of tab_ok Try.func50 rfl (Nat.le_of_ble_eq_true rfl) fun w0 S0 => ?_
  change G _ _ ⟨[(0, .agg [.row false 3 (ps.map pv), .row false 5 (ks.map kv)])], [], 58⟩
  apply G.seq
  refine G.rg tab_ok ok_implWaitsOf (hk := ?_)
  apply G.seq
  refine G.rg tab_ok ok_implWaitsOf (hk := ?_)
  apply G.seq
  apply G.seq
  refine G.rg tab_ok ok_implWaitsOf (hk := ?_)
  refine G.fg [1, 4, 22, 32, 33, 34, 35, 36, 37, 38, 39, 40, 41, 42] (hk := ?_)
  refine G.iff (h1 := fun h1 => ?_) (h2 := fun h1 => ?_)
  · try simp only [zqz] at h1
    apply G.seq
    refine G.rg tab_ok ok_implWaitsOf (hk := ?_)
    refine G.nilRow 2 1 rfl ?_
    refine G.fin tab_ok (hr := ?_)
    rw [waitO_no (by rw [hL]; exact h1)]
    rfl
  · try simp only [zqz] at h1
    apply G.skip
    apply G.seq
    have hok : (leastO ps ks).2.2 = true := by rw [hL]; exact h1
    obtain ⟨hnk, hl0, hall⟩ := leastO_ok hok
    rw [hL] at hl0 hall
    simp only at hl0 hall
    have hle1 : H.length ≤ ks.length := Nat.le_of_eq hl0
    have hle2 : ks.length ≤ H.length := Nat.le_of_eq hl0.symm
    have hnw := netOk_w hnk
    have hp12 := hnw.pl
    have hk30 := hnw.kl
    clear hl0
    have hps : ps.length < 3518437208781 := by omega
    have hks : ks.length < 2513169434844 := by omega
    have hkw := net_KW hnk
    refine G.freeze 4 1 rfl (by simp [look]) ?_
    simp only [roLL_ovL, List.set_cons_succ, List.set_cons_zero]
    refine G.rg tab_ok ok_implWaitsOf (hk := ?_)
    apply G.seq
    apply G.seq
    refine G.rg tab_ok ok_implWaitsOf (hk := ?_)
    apply G.block
    refine G.nm [1, 4, 7, 25, 26, 27] (h := ?_)
    refine G.loopX (fun j : Nat => ⟨[(1, .ptr 0 0 0), (4, .row false 1 (H.map ivL)), (7, .sl 1 0 j), (25, .row false 3 (ps.map pv)), (26, .int .i64 ps.length), (27, .int .i64 j)], [some (2, [[.row false 3 (ps.map pv), .row false 5 (ks.map kv)]]), some (1, (waitN ps ks H j).map iv)], 58⟩) (fun j => j ≤ ps.length) (fun j => ps.length - j) (0) (Nat.zero_le _) (by simp [waitN]) ?_
    intro j hj J hJ
    have hw : IntKind.i64.wrap ((j : Int) + 1) = (j : Int) + 1 := wrap64 (by omega) (by omega)
    apply G.seq
    refine G.rg tab_ok ok_implWaitsOf (hk := ?_)
    apply G.seq
    refine G.iff (h1 := fun h2 => ?_) (h2 := fun h2 => ?_)
    · try simp only [zqz] at h2
      apply G.skip
      apply G.seq
      apply G.block
      apply G.seq
      have hjp : j < ps.length := by omega
      have e_run := e_implAlone (ps.getD j default).i (ps.getD j default).o (ps.getD j default).l (insK ps ks H j) 3000 (pg_ok hnk hjp) (insK_IW hnk hjp (by omega) hall) (by omega) (by omega)
      change q_implAlone _ = some (.tup [.row true 1 ((outK ps ks H j).map ovL), .row true 1 ((runK ps ks H j).1.used.map iv), .int .i64 (runK ps ks H j).2.1, .int .i64 (runK ps ks H j).2.2]) at e_run
      obtain ⟨U, hU⟩ : ∃ x, (runK ps ks H j).1.used = x := ⟨_, rfl⟩
      obtain ⟨R, hR⟩ : ∃ x, (runK ps ks H j).2 = x := ⟨_, rfl⟩
      obtain ⟨W, P⟩ := R
      rw [hU, hR] at e_run
      clear hU
      have hwl := waitN_len (ps := ps) (ks := ks) (H := H) j
      have hwt : List.take j ((waitN ps ks H j).map iv) = (waitN ps ks H j).map iv := List.take_of_length_le (by simp [waitN_len])
      have hq1 : ((j + 1 : Nat) : Int) ≤ 4611686018427387904 := by omega
      have hq2 : (j + 1) * 8 ≤ 70368744177664 := by omega
      refine G.rg tab_ok ok_implWaitsOf (hk := ?_)
      apply G.seq
      refine G.rg tab_ok ok_implWaitsOf (hk := ?_)
      apply G.seq
      apply G.seq
      refine G.dr mixed tab_ok ok_implWaitsOf [0, 1, 2, 3, 4, 5, 6, 7, 8, 9, 10, 11, 12, 13, 14] (hk := ?_)
      apply G.seq
      refine G.rg tab_ok ok_implWaitsOf (hk := ?_)
      refine G.fg [1, 4, 7, 8, 10, 14, 25, 26, 27, 44] (hk := ?_)
      refine G.iff (h1 := fun h3 => ?_) (h2 := fun h3 => ?_)
      · try simp only [zqz] at h3
        have hlk := run_link hnk hjp (H := H) (by omega) hall (by rw [hR]; exact h3)
        rw [hR] at hlk
        have hw2 : waitK ps ks H j = onlyAt (isTo j P) ks := by unfold waitK; rw [hR, if_pos h3]
        have hap : List.map iv (waitN ps ks H j) ++ [[.int .i64 (onlyAt (isTo j P) ks)]] = List.map iv (waitN ps ks H (j + 1)) := by rw [← waitN_succ, hw2]; simp [iv]
        refine G.rg tab_ok ok_implWaitsOf (hk := ?_)
        first
        | (have hy := hap)
        | (have hw2 : waitK ps ks H j = -1 := by unfold waitK; rw [hR, if_neg h3]
           have hap : List.map iv (waitN ps ks H j) ++ [[.int .i64 (-1)]] = List.map iv (waitN ps ks H (j + 1)) := by rw [← waitN_succ, hw2]; simp [iv])
        refine G.rg tab_ok ok_implWaitsOf (hk := ?_)
        apply G.blk
        refine G.rg tab_ok ok_implWaitsOf (hk := ?_)
        refine G.nm [1, 4, 7, 25, 26, 27] (h := ?_)
        exact G.upto (hJ (j + 1) (by omega) (by omega)) (by simp [waitN_len])
      · try simp only [zqz] at h3
        apply G.skip
        first
        | (have hy := hap)
        | (have hw2 : waitK ps ks H j = -1 := by unfold waitK; rw [hR, if_neg h3]
           have hap : List.map iv (waitN ps ks H j) ++ [[.int .i64 (-1)]] = List.map iv (waitN ps ks H (j + 1)) := by rw [← waitN_succ, hw2]; simp [iv])
        refine G.rg tab_ok ok_implWaitsOf (hk := ?_)
        apply G.blk
        refine G.rg tab_ok ok_implWaitsOf (hk := ?_)
        refine G.nm [1, 4, 7, 25, 26, 27] (h := ?_)
        exact G.upto (hJ (j + 1) (by omega) (by omega)) (by simp [waitN_len])
    · try simp only [zqz] at h2
      refine G.exit rfl ?_
      apply G.seq
      refine G.rg tab_ok ok_implWaitsOf (hk := ?_)
      obtain rfl : j = ps.length := by omega
      have hwl1 : ps.length ≤ (waitN ps ks H ps.length).length := by rw [waitN_len]; exact Nat.le_refl _
      have hwl2 : List.take ps.length ((waitN ps ks H ps.length).map iv) = (waitN ps ks H ps.length).map iv := List.take_of_length_le (by simp [waitN_len])
      refine G.fin tab_ok (hr := ?_)
      rw [waitO_yes hok, hL]
      simp only [oneOrTup]
def r_implWaitsOf (xs0 : List A) (rr : A) : Prop := ∃ (ps : List PG) (ks : List LK), (NW ps) ∧ (KW ks) ∧ (ps.length < 3518437208781) ∧ (ks.length < 2513169434844) ∧ xs0 = [.agg [.row false 3 (ps.map pv), .row false 5 (ks.map kv)]] ∧ rr = .tup [.row true 1 ((waitO ps ks).1.map iv), .bool (waitO ps ks).2]
noncomputable def q_implWaitsOf : List A → Option A := kgr r_implWaitsOf
theorem k_implWaitsOf : KOk Try.prog (50, q_implWaitsOf) := kgr_ok (enters_of Try.func50 rfl rfl) (by rintro xs0 rr ⟨ps, ks, hc1, hc2, hc3, hc4, rfl, rfl⟩; exact implWaitsOf_ac ps ks hc1 hc2 hc3 hc4)
theorem e_implWaitsOf : ∀ (ps : List PG) (ks : List LK), (NW ps) → (KW ks) → (ps.length < 3518437208781) → (ks.length < 2513169434844) → q_implWaitsOf [.agg [.row false 3 (ps.map pv), .row false 5 (ks.map kv)]] = some (.tup [.row true 1 ((waitO ps ks).1.map iv), .bool (waitO ps ks).2]) := by
 intro ps ks hc1 hc2 hc3 hc4
 refine kgr_eq (fun xs0 rr r2 h h2 => ?_) ⟨ps, ks, hc1, hc2, hc3, hc4, rfl, rfl⟩
 obtain ⟨ps1, ks1, _, _, _, _, e1, rfl⟩ := h; obtain ⟨ps2, ks2, _, _, _, _, e2, rfl⟩ := h2
 rw [e1] at e2
 simp only [List.cons.injEq, A.int.injEq, A.bool.injEq, A.agg.injEq, A.row.injEq, pv_inj, kv_inj, true_and, and_true] at e2
 obtain ⟨e3, e4⟩ := e2
 subst e3 e4
 rfl
end Go.Proofs.Ytimgfinlbhodhaa.Ab
