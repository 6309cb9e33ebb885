/- Walks of functions of the program: what each answers, for all arguments that meet its conditions. -/
import Derived.Test.YtahcojaklooliaaAbObs
import Derived.Test.YtahcojaklooliaaFwGj
import Derived.Test.YtahcojaklooliaaAbH4
import Derived.Test.YtahcojaklooliaaFwGg
import Derived.Test.YtahcojaklooliaaFwB
import Derived.Test.YtahcojaklooliaaFwGa
namespace Go.Proofs.Ytahcojaklooliaa.Ab
open Go
set_option linter.unusedVariables false
set_option linter.unusedSimpArgs false
set_option maxHeartbeats 4000000
theorem ok_specWaitsOf : Kn.ok Try.prog (kof [(49, q_specLeastStreams), (63, q_l4Inputs), (62, q_l2Run), (64, q_l3To)]) := kof_cons k_specLeastStreams (kof_cons k_l4Inputs (kof_cons k_l2Run (kof_cons k_l3To ((kof_nil _)))))
theorem specWaitsOf_ac (ps : List PG) (ks : List LK) (hc1 : NW ps) (hc2 : KW ks) (hc3 : ps.length < 3518437208781) (hc4 : ks.length < 2513169434844) : AC Try.prog 21 [.agg [.row false 3 (ps.map pv), .row false 5 (ks.map kv)]] (.tup [.row true 1 ((waitO ps ks).1.map iv), .bool (waitO ps ks).2]) := by
  have e_specLeastStreams := e_specLeastStreams
  have e_l4Inputs := e_l4Inputs
  have e_l2Run := e_l2Run
  have e_l3To := e_l3To
  clear e_l2Run
  have hivl := ivL_eq
  have hro := roLL_ovL
  have hpov := pureLL_ovL
  have hnov := noLoanLL_ovL
  have hpct := pureLL_cellT
  have hriv := roLL_ivL
  have hpiv := pureLL_ivL
  have hfou : ∀ x : List (List Int), List.take x.length (List.map ovL x) = List.map ovL x := fun x => List.take_of_length_le (by simp)
  obtain ⟨L, hL⟩ : ∃ x, leastO ps ks = x := ⟨_, rfl⟩
  obtain ⟨H, c, b⟩ := L
  refine AC.of tab_ok Try.func21 rfl (Nat.le_of_ble_eq_true rfl) fun w0 S0 => ?_
  change G _ _ ⟨[(0, .agg [.row false 3 (ps.map pv), .row false 5 (ks.map kv)])], [], 56⟩
  apply G.seq
  refine G.rg tab_ok ok_specWaitsOf (hk := ?_)
  apply G.seq
  refine G.rg tab_ok ok_specWaitsOf (hk := ?_)
  apply G.seq
  apply G.seq
  refine G.rg tab_ok ok_specWaitsOf (hk := ?_)
  refine G.fg [1, 4, 21, 31, 32, 33, 34, 35, 36, 37, 38, 39, 40, 41] (hk := ?_)
  refine G.iff (h1 := fun h1 => ?_) (h2 := fun h1 => ?_)
  · try simp only [decide_eq_true_eq, decide_eq_false_iff_not, Bool.and_eq_true, Bool.and_eq_false_imp, Bool.or_eq_true, Bool.or_eq_false_iff, Bool.not_eq_true', Bool.not_eq_false', bne_iff_ne, beq_iff_eq, bne_eq_false_iff_eq, beq_eq_false_iff_ne, ne_eq, Int.ofNat_lt, Int.not_lt, Int.not_le, Int.ofNat_le, Nat.not_lt, Nat.not_le, gt_iff_lt, ge_iff_le] at h1
    apply G.seq
    refine G.rg tab_ok ok_specWaitsOf (hk := ?_)
    refine G.nilRow 2 1 rfl ?_
    refine G.fin tab_ok (hr := ?_)
    rw [waitO_no (by rw [hL]; exact h1)]
    rfl
  · try simp only [decide_eq_true_eq, decide_eq_false_iff_not, Bool.and_eq_true, Bool.and_eq_false_imp, Bool.or_eq_true, Bool.or_eq_false_iff, Bool.not_eq_true', Bool.not_eq_false', bne_iff_ne, beq_iff_eq, bne_eq_false_iff_eq, beq_eq_false_iff_ne, ne_eq, Int.ofNat_lt, Int.not_lt, Int.not_le, Int.ofNat_le, Nat.not_lt, Nat.not_le, gt_iff_lt, ge_iff_le] at h1
    apply G.skip
    apply G.seq
    have hok : (leastO ps ks).2.2 = true := by rw [hL]; exact h1
    obtain ⟨hnk, hl0, hall⟩ := leastO_ok hok
    rw [hL] at hl0 hall
    simp only at hl0 hall
    have hle1 : H.length ≤ ks.length := Nat.le_of_eq hl0
    have hle2 : ks.length ≤ H.length := Nat.le_of_eq hl0.symm
    have hnw := netOk_w hnk
    have hp12 := hnw.pl
    have hk30 := hnw.kl
    clear hl0
    have hps : ps.length < 3518437208781 := by omega
    have hks : ks.length < 2513169434844 := by omega
    have hkw := net_KW hnk
    refine G.freeze 4 1 rfl (by simp [look]) ?_
    simp only [roLL_ovL, List.set_cons_succ, List.set_cons_zero]
    refine G.rg tab_ok ok_specWaitsOf (hk := ?_)
    apply G.seq
    apply G.seq
    refine G.rg tab_ok ok_specWaitsOf (hk := ?_)
    apply G.block
    refine G.nm [1, 4, 7, 24, 25, 26] (h := ?_)
    refine G.loopX (fun j : Nat => ⟨[(1, .ptr 0 0 0), (4, .row false 1 (H.map ivL)), (7, .sl 1 0 j), (24, .row false 3 (ps.map pv)), (25, .int .i64 ps.length), (26, .int .i64 j)], [some (2, [[.row false 3 (ps.map pv), .row false 5 (ks.map kv)]]), some (1, (waitN ps ks H j).map iv)], 56⟩) (fun j => j ≤ ps.length) (fun j => ps.length - j) (0) (Nat.zero_le _) (by simp [waitN]) ?_
    intro j hj J hJ
    have hw : IntKind.i64.wrap ((j : Int) + 1) = (j : Int) + 1 := wrap64 (by omega) (by omega)
    apply G.seq
    refine G.rg tab_ok ok_specWaitsOf (hk := ?_)
    apply G.seq
    refine G.iff (h1 := fun h2 => ?_) (h2 := fun h2 => ?_)
    · try simp only [decide_eq_true_eq, decide_eq_false_iff_not, Bool.and_eq_true, Bool.and_eq_false_imp, Bool.or_eq_true, Bool.or_eq_false_iff, Bool.not_eq_true', Bool.not_eq_false', bne_iff_ne, beq_iff_eq, bne_eq_false_iff_eq, beq_eq_false_iff_ne, ne_eq, Int.ofNat_lt, Int.not_lt, Int.not_le, Int.ofNat_le, Nat.not_lt, Nat.not_le, gt_iff_lt, ge_iff_le] at h2
      apply G.skip
      apply G.seq
      apply G.block
      apply G.seq
      have hjp : j < ps.length := by omega
      have e_run := e_l2Run (ps.getD j default).i (ps.getD j default).o (ps.getD j default).l (insK ps ks H j) 3000 (pg_ok hnk hjp) (insK_IW hnk hjp (by omega) hall) (by omega) (by omega)
      change q_l2Run _ = some (.tup [.row true 1 ((outK ps ks H j).map ovL), .row true 1 ((runK ps ks H j).1.used.map iv), .int .i64 (runK ps ks H j).2.1, .int .i64 (runK ps ks H j).2.2]) at e_run
      obtain ⟨U, hU⟩ : ∃ x, (runK ps ks H j).1.used = x := ⟨_, rfl⟩
      obtain ⟨R, hR⟩ : ∃ x, (runK ps ks H j).2 = x := ⟨_, rfl⟩
      obtain ⟨W, P⟩ := R
      rw [hU, hR] at e_run
      clear hU
      have hwl := waitN_len (ps := ps) (ks := ks) (H := H) j
      have hwt : List.take j ((waitN ps ks H j).map iv) = (waitN ps ks H j).map iv := List.take_of_length_le (by simp [waitN_len])
      have hq1 : ((j + 1 : Nat) : Int) ≤ 4611686018427387904 := by omega
      have hq2 : (j + 1) * 8 ≤ 70368744177664 := by omega
      refine G.rg tab_ok ok_specWaitsOf (hk := ?_)
      apply G.seq
      refine G.dr mixed tab_ok ok_specWaitsOf [0, 1, 2, 3, 4, 5, 6, 7, 8, 9, 10, 11, 12, 13, 14] (hk := ?_)
      apply G.seq
      refine G.rg tab_ok ok_specWaitsOf (hk := ?_)
      refine G.fg [1, 4, 7, 8, 13, 24, 25, 26, 43] (hk := ?_)
      refine G.iff (h1 := fun h3 => ?_) (h2 := fun h3 => ?_)
      · try simp only [decide_eq_true_eq, decide_eq_false_iff_not, Bool.and_eq_true, Bool.and_eq_false_imp, Bool.or_eq_true, Bool.or_eq_false_iff, Bool.not_eq_true', Bool.not_eq_false', bne_iff_ne, beq_iff_eq, bne_eq_false_iff_eq, beq_eq_false_iff_ne, ne_eq, Int.ofNat_lt, Int.not_lt, Int.not_le, Int.ofNat_le, Nat.not_lt, Nat.not_le, gt_iff_lt, ge_iff_le] at h3
        have hw2 : waitK ps ks H j = onlyAt (isTo j P) ks := by unfold waitK; rw [hR, if_pos h3]
        have hap : List.map iv (waitN ps ks H j) ++ [[.int .i64 (onlyAt (isTo j P) ks)]] = List.map iv (waitN ps ks H (j + 1)) := by rw [← waitN_succ, hw2]; simp [iv]
        refine G.rg tab_ok ok_specWaitsOf (hk := ?_)
        apply G.blk
        refine G.rg tab_ok ok_specWaitsOf (hk := ?_)
        refine G.nm [1, 4, 7, 24, 25, 26] (h := ?_)
        exact G.upto (hJ (j + 1) (by omega) (by omega)) (by simp [waitN_len])
      · try simp only [decide_eq_true_eq, decide_eq_false_iff_not, Bool.and_eq_true, Bool.and_eq_false_imp, Bool.or_eq_true, Bool.or_eq_false_iff, Bool.not_eq_true', Bool.not_eq_false', bne_iff_ne, beq_iff_eq, bne_eq_false_iff_eq, beq_eq_false_iff_ne, ne_eq, Int.ofNat_lt, Int.not_lt, Int.not_le, Int.ofNat_le, Nat.not_lt, Nat.not_le, gt_iff_lt, ge_iff_le] at h3
        have hw2 : waitK ps ks H j = -1 := by unfold waitK; rw [hR, if_neg h3]
        have hap : List.map iv (waitN ps ks H j) ++ [[.int .i64 (-1)]] = List.map iv (waitN ps ks H (j + 1)) := by rw [← waitN_succ, hw2]; simp [iv]
        refine G.rg tab_ok ok_specWaitsOf (hk := ?_)
        apply G.blk
        refine G.rg tab_ok ok_specWaitsOf (hk := ?_)
        refine G.nm [1, 4, 7, 24, 25, 26] (h := ?_)
        exact G.upto (hJ (j + 1) (by omega) (by omega)) (by simp [waitN_len])
    · try simp only [decide_eq_true_eq, decide_eq_false_iff_not, Bool.and_eq_true, Bool.and_eq_false_imp, Bool.or_eq_true, Bool.or_eq_false_iff, Bool.not_eq_true', Bool.not_eq_false', bne_iff_ne, beq_iff_eq, bne_eq_false_iff_eq, beq_eq_false_iff_ne, ne_eq, Int.ofNat_lt, Int.not_lt, Int.not_le, Int.ofNat_le, Nat.not_lt, Nat.not_le, gt_iff_lt, ge_iff_le] at h2
      refine G.exit rfl ?_
      apply G.seq
      refine G.rg tab_ok ok_specWaitsOf (hk := ?_)
      obtain rfl : j = ps.length := by omega
      have hwl1 : ps.length ≤ (waitN ps ks H ps.length).length := by rw [waitN_len]; exact Nat.le_refl _
      have hwl2 : List.take ps.length ((waitN ps ks H ps.length).map iv) = (waitN ps ks H ps.length).map iv := List.take_of_length_le (by simp [waitN_len])
      refine G.fin tab_ok (hr := ?_)
      rw [waitO_yes hok, hL]
      simp only [oneOrTup]
def r_specWaitsOf (xs0 : List A) (rr : A) : Prop := ∃ (ps : List PG) (ks : List LK), (NW ps) ∧ (KW ks) ∧ (ps.length < 3518437208781) ∧ (ks.length < 2513169434844) ∧ xs0 = [.agg [.row false 3 (ps.map pv), .row false 5 (ks.map kv)]] ∧ rr = .tup [.row true 1 ((waitO ps ks).1.map iv), .bool (waitO ps ks).2]
noncomputable def q_specWaitsOf : List A → Option A := kgr r_specWaitsOf
theorem k_specWaitsOf : KOk Try.prog (21, q_specWaitsOf) := kgr_ok (enters_of Try.func21 rfl rfl) (by rintro xs0 rr ⟨ps, ks, hc1, hc2, hc3, hc4, rfl, rfl⟩; exact specWaitsOf_ac ps ks hc1 hc2 hc3 hc4)
theorem e_specWaitsOf : ∀ (ps : List PG) (ks : List LK), (NW ps) → (KW ks) → (ps.length < 3518437208781) → (ks.length < 2513169434844) → q_specWaitsOf [.agg [.row false 3 (ps.map pv), .row false 5 (ks.map kv)]] = some (.tup [.row true 1 ((waitO ps ks).1.map iv), .bool (waitO ps ks).2]) := by
  intro ps ks hc1 hc2 hc3 hc4
  refine kgr_eq (fun xs0 rr r2 h h2 => ?_) ⟨ps, ks, hc1, hc2, hc3, hc4, rfl, rfl⟩
  obtain ⟨ps1, ks1, _, _, _, _, e1, rfl⟩ := h; obtain ⟨ps2, ks2, _, _, _, _, e2, rfl⟩ := h2
  rw [e1] at e2
  simp only [List.cons.injEq, A.int.injEq, A.bool.injEq, A.agg.injEq, A.row.injEq, pv_inj, kv_inj, true_and, and_true] at e2
  obtain ⟨e3, e4⟩ := e2
  subst e3 e4
  rfl
end Go.Proofs.Ytahcojaklooliaa.Ab
