/- Walks of functions of the program: what each answers, for all arguments that meet its conditions. -/
import Derived.Test.YtmijpnghcggdfaaAbSums
import Derived.Test.YtmijpnghcggdfaaAbP5
import Derived.Test.YtmijpnghcggdfaaAbP30
import Derived.Test.YtmijpnghcggdfaaAbAuto2
import Derived.Test.YtmijpnghcggdfaaAbAutoF
namespace Go.Proofs.Ytmijpnghcggdfaa.Ab
open Go
set_option linter.unusedVariables false
set_option linter.unusedSimpArgs false
set_option maxHeartbeats 4000000

theorem split1_ac (i : Int)  : AC Try.prog 75 [.int .i64 i] (.bool (i.tmod 2 == 0)) := by
  refine AC.of tab_ok Try.func75 rfl (Nat.le_of_ble_eq_true rfl) fun w0 S0 => ?_
  change G _ _ ⟨[(0, .int .i64 i)], [], 6⟩
  apply G.seq
  refine G.rg tab_ok (kof_nil _) (hk := ?_)
  apply G.seq
  refine G.rg tab_ok (kof_nil _) (hk := ?_)
  refine G.fin tab_ok (hr := ?_)
  rfl
def r_split1 (xs0 : List A) (rr : A) : Prop := ∃ (i : Int), xs0 = [.int .i64 i] ∧ rr = .bool (i.tmod 2 == 0)
noncomputable def q_split1 : List A → Option A := kgr r_split1
theorem k_split1 : KOk Try.prog (75, q_split1) := kgr_ok (enters_of Try.func75 rfl rfl) (by rintro xs0 rr ⟨i, rfl, rfl⟩; exact split1_ac i)
theorem e_split1 : ∀ (i : Int), q_split1 [.int .i64 i] = some (.bool (i.tmod 2 == 0)) := by
  intro i
  refine kgr_eq (fun xs0 rr r2 h h2 => ?_) ⟨i, rfl, rfl⟩
  obtain ⟨i1, e1, rfl⟩ := h; obtain ⟨i2, e2, rfl⟩ := h2
  rw [e1] at e2
  simp only [List.cons.injEq, A.int.injEq, A.bool.injEq, A.agg.injEq, A.row.injEq, A.fn.injEq, A.rp.injEq, insv_inj, iv_inj, true_and, and_true] at e2
  simp [e2]

theorem route1_ac (i : Int) (rs : List Int) (m : Int) (hc1 : 0 ≤ i) (hc2 : i < (rs.length : Int)) (hc3 : 0 < m) : AC Try.prog 76 [.int .i64 i, .rp 1 [[.row false 1 (rs.map iv)]] 0 0, .rp 1 [[.int .i64 m]] 0 0] (.bool ((rs.getD i.toNat default).tmod m == 0)) := by
  have hk : i.toNat < rs.length := by omega
  have hm0 : ¬ m = 0 := by omega
  refine AC.of tab_ok Try.func76 rfl (Nat.le_of_ble_eq_true rfl) fun w0 S0 => ?_
  change G _ _ ⟨[(0, .int .i64 i), (1, .rp 1 [[.row false 1 (rs.map iv)]] 0 0), (2, .rp 1 [[.int .i64 m]] 0 0)], [], 12⟩
  apply G.seq
  refine G.rg tab_ok (kof_nil _) (hk := ?_)
  apply G.seq
  refine G.dr mixed tab_ok (kof_nil _) [0, 1, 2, 3, 4, 5, 6, 7] (hk := ?_)
  refine G.fin tab_ok (hr := ?_)
  rfl
def r_route1 (xs0 : List A) (rr : A) : Prop := ∃ (i : Int) (rs : List Int) (m : Int), (0 ≤ i) ∧ (i < (rs.length : Int)) ∧ (0 < m) ∧ xs0 = [.int .i64 i, .rp 1 [[.row false 1 (rs.map iv)]] 0 0, .rp 1 [[.int .i64 m]] 0 0] ∧ rr = .bool ((rs.getD i.toNat default).tmod m == 0)
noncomputable def q_route1 : List A → Option A := kgr r_route1
theorem k_route1 : KOk Try.prog (76, q_route1) := kgr_ok (enters_of Try.func76 rfl rfl) (by rintro xs0 rr ⟨i, rs, m, hc1, hc2, hc3, rfl, rfl⟩; exact route1_ac i rs m hc1 hc2 hc3)
theorem e_route1 : ∀ (i : Int) (rs : List Int) (m : Int), (0 ≤ i) → (i < (rs.length : Int)) → (0 < m) → q_route1 [.int .i64 i, .rp 1 [[.row false 1 (rs.map iv)]] 0 0, .rp 1 [[.int .i64 m]] 0 0] = some (.bool ((rs.getD i.toNat default).tmod m == 0)) := by
  intro i rs m hc1 hc2 hc3
  refine kgr_eq (fun xs0 rr r2 h h2 => ?_) ⟨i, rs, m, hc1, hc2, hc3, rfl, rfl⟩
  obtain ⟨i1, rs1, m1, _, _, _, e1, rfl⟩ := h; obtain ⟨i2, rs2, m2, _, _, _, e2, rfl⟩ := h2
  rw [e1] at e2
  simp only [List.cons.injEq, A.int.injEq, A.bool.injEq, A.agg.injEq, A.row.injEq, A.fn.injEq, A.rp.injEq, insv_inj, iv_inj, true_and, and_true] at e2
  simp [e2]

theorem ok_partedS : Kn.ok Try.prog (kof [(75, q_split1)]) := kof_cons k_split1 ((kof_nil _))
theorem partedS_ac (rs : List Int) (hc1 : rs.length ≤ 400) : AC Try.prog 74 [.row false 1 (rs.map iv), .fn 75 []] (.tup [.row true 1 ((part evenP rs rs.length).1.map iv), .row true 1 ((part evenP rs rs.length).2.map iv)]) := by
  have e_split1 := e_split1
  refine AC.of tab_ok Try.func74 rfl (Nat.le_of_ble_eq_true rfl) fun w0 S0 => ?_
  change G _ _ ⟨[(0, .row false 1 (rs.map iv)), (1, .fn 75 [])], [], 33⟩
  apply G.seq
  refine G.rg tab_ok ok_partedS (hk := ?_)
  apply G.seq
  refine G.rg tab_ok ok_partedS (hk := ?_)
  apply G.seq
  apply G.seq
  refine G.rg tab_ok ok_partedS (hk := ?_)
  apply G.block
  refine G.nm [1, 6, 7, 12, 13, 14] (h := ?_)
  refine G.loopX (fun j : Nat => ⟨[(1, .fn 75 []), (6, .sl 0 0 (part evenP rs j).1.length), (7, .sl 1 0 (part evenP rs j).2.length), (12, .row false 1 (rs.map iv)), (13, .int .i64 rs.length), (14, .int .i64 j)], [some (1, (part evenP rs j).1.map iv), some (1, (part evenP rs j).2.map iv)], 33⟩) (fun j => j ≤ rs.length) (fun j => rs.length - j) (0) (Nat.zero_le _) (by simp [part]) ?_
  intro j hj J hJ
  have hw : IntKind.i64.wrap ((j : Int) + 1) = (j : Int) + 1 := wrap64 (by omega) (by omega)
  have hpl := part_len (evenP) rs j
  have hp1 : (part evenP rs j).1.length ≤ 400 := by omega
  have hp2 : (part evenP rs j).2.length ≤ 400 := by omega
  clear hpl
  have ht1 : List.take ((part evenP rs j).1).length (((part evenP rs j).1).map iv) = ((part evenP rs j).1).map iv := List.take_of_length_le (by simp)
  have ht2 : List.take ((part evenP rs j).2).length (((part evenP rs j).2).map iv) = ((part evenP rs j).2).map iv := List.take_of_length_le (by simp)
  
  apply G.seq
  refine G.rg tab_ok ok_partedS (hk := ?_)
  apply G.seq
  refine G.iff (h1 := fun h1 => ?_) (h2 := fun h1 => ?_)
  · try simp only [decide_eq_true_eq, decide_eq_false_iff_not, Bool.and_eq_true, Bool.and_eq_false_imp, Bool.or_eq_true, Bool.or_eq_false_iff, Bool.not_eq_true', Bool.not_eq_false', bne_iff_ne, beq_iff_eq, bne_eq_false_iff_eq, beq_eq_false_iff_ne, ne_eq, Int.ofNat_lt, Int.not_lt, Int.not_le, Int.ofNat_le, Nat.not_lt, Nat.not_le, gt_iff_lt, ge_iff_le] at h1
    apply G.skip
    apply G.seq
    apply G.block
    apply G.seq
    refine G.rg tab_ok ok_partedS (hk := ?_)
    apply G.seq
    refine G.rg tab_ok ok_partedS (hk := ?_)
    refine G.fg [1, 6, 7, 9, 12, 13, 14, 21] (hk := ?_)
    refine G.iff (h1 := fun h2 => ?_) (h2 := fun h2 => ?_)
    · try simp only [decide_eq_true_eq, decide_eq_false_iff_not, Bool.and_eq_true, Bool.and_eq_false_imp, Bool.or_eq_true, Bool.or_eq_false_iff, Bool.not_eq_true', Bool.not_eq_false', bne_iff_ne, beq_iff_eq, bne_eq_false_iff_eq, beq_eq_false_iff_ne, ne_eq, Int.ofNat_lt, Int.not_lt, Int.not_le, Int.ofNat_le, Nat.not_lt, Nat.not_le, gt_iff_lt, ge_iff_le] at h2
      have hb61 : ((((part evenP rs j).1.length + 1 : Nat) : Int)) ≤ 4611686018427387904 := by omega
      have hc61 : ((part evenP rs j).1.length + 1) * 8 ≤ 70368744177664 := by omega
      have hb62 : ((((part evenP rs j).2.length + 1 : Nat) : Int)) ≤ 4611686018427387904 := by omega
      have hc62 : ((part evenP rs j).2.length + 1) * 8 ≤ 70368744177664 := by omega
      refine G.rg tab_ok ok_partedS (hk := ?_)
      apply G.blk
      refine G.rg tab_ok ok_partedS (hk := ?_)
      refine G.nm [1, 6, 7, 12, 13, 14] (h := ?_)
      exact G.upto (hJ (j + 1) (by omega) (by omega)) (by first | (rw [part_y (show evenP j = true from by unfold evenP; exact beq_iff_eq.2 h2)]; simp [iv]; done) | (rw [part_n (show evenP j = false from by unfold evenP; exact beq_eq_false_iff_ne.2 h2)]; simp [iv]; done))
    · try simp only [decide_eq_true_eq, decide_eq_false_iff_not, Bool.and_eq_true, Bool.and_eq_false_imp, Bool.or_eq_true, Bool.or_eq_false_iff, Bool.not_eq_true', Bool.not_eq_false', bne_iff_ne, beq_iff_eq, bne_eq_false_iff_eq, beq_eq_false_iff_ne, ne_eq, Int.ofNat_lt, Int.not_lt, Int.not_le, Int.ofNat_le, Nat.not_lt, Nat.not_le, gt_iff_lt, ge_iff_le] at h2
      have hb71 : ((((part evenP rs j).1.length + 1 : Nat) : Int)) ≤ 4611686018427387904 := by omega
      have hc71 : ((part evenP rs j).1.length + 1) * 8 ≤ 70368744177664 := by omega
      have hb72 : ((((part evenP rs j).2.length + 1 : Nat) : Int)) ≤ 4611686018427387904 := by omega
      have hc72 : ((part evenP rs j).2.length + 1) * 8 ≤ 70368744177664 := by omega
      refine G.rg tab_ok ok_partedS (hk := ?_)
      apply G.blk
      refine G.rg tab_ok ok_partedS (hk := ?_)
      refine G.nm [1, 6, 7, 12, 13, 14] (h := ?_)
      exact G.upto (hJ (j + 1) (by omega) (by omega)) (by first | (rw [part_y (show evenP j = true from by unfold evenP; exact beq_iff_eq.2 h2)]; simp [iv]; done) | (rw [part_n (show evenP j = false from by unfold evenP; exact beq_eq_false_iff_ne.2 h2)]; simp [iv]; done))
  · try simp only [decide_eq_true_eq, decide_eq_false_iff_not, Bool.and_eq_true, Bool.and_eq_false_imp, Bool.or_eq_true, Bool.or_eq_false_iff, Bool.not_eq_true', Bool.not_eq_false', bne_iff_ne, beq_iff_eq, bne_eq_false_iff_eq, beq_eq_false_iff_ne, ne_eq, Int.ofNat_lt, Int.not_lt, Int.not_le, Int.ofNat_le, Nat.not_lt, Nat.not_le, gt_iff_lt, ge_iff_le] at h1
    refine G.exit rfl ?_
    apply G.seq
    refine G.rg tab_ok ok_partedS (hk := ?_)
    refine G.fin tab_ok (hr := ?_)
    obtain rfl : j = rs.length := by omega
    rfl
def r_partedS (xs0 : List A) (rr : A) : Prop := ∃ (rs : List Int), (rs.length ≤ 400) ∧ xs0 = [.row false 1 (rs.map iv), .fn 75 []] ∧ rr = .tup [.row true 1 ((part evenP rs rs.length).1.map iv), .row true 1 ((part evenP rs rs.length).2.map iv)]
noncomputable def q_partedS : List A → Option A := kgr r_partedS
theorem k_partedS : KOk Try.prog (74, q_partedS) := kgr_ok (enters_of Try.func74 rfl rfl) (by rintro xs0 rr ⟨rs, hc1, rfl, rfl⟩; exact partedS_ac rs hc1)
theorem e_partedS : ∀ (rs : List Int), (rs.length ≤ 400) → q_partedS [.row false 1 (rs.map iv), .fn 75 []] = some (.tup [.row true 1 ((part evenP rs rs.length).1.map iv), .row true 1 ((part evenP rs rs.length).2.map iv)]) := by
  intro rs hc1
  refine kgr_eq (fun xs0 rr r2 h h2 => ?_) ⟨rs, hc1, rfl, rfl⟩
  obtain ⟨rs1, _, e1, rfl⟩ := h; obtain ⟨rs2, _, e2, rfl⟩ := h2
  rw [e1] at e2
  simp only [List.cons.injEq, A.int.injEq, A.bool.injEq, A.agg.injEq, A.row.injEq, A.fn.injEq, A.rp.injEq, insv_inj, iv_inj, true_and, and_true] at e2
  simp [e2]

theorem ok_partedR : Kn.ok Try.prog (kof [(76, q_route1)]) := kof_cons k_route1 ((kof_nil _))
theorem partedR_ac (rs : List Int) (m : Int) (hc1 : rs.length ≤ 400) (hc2 : 0 < m) : AC Try.prog 74 [.row false 1 (rs.map iv), .fn 76 [.rp 1 [[.row false 1 (rs.map iv)]] 0 0, .rp 1 [[.int .i64 m]] 0 0]] (.tup [.row true 1 ((part (routeP rs m) rs rs.length).1.map iv), .row true 1 ((part (routeP rs m) rs rs.length).2.map iv)]) := by
  have e_route1 := e_route1
  refine AC.of tab_ok Try.func74 rfl (Nat.le_of_ble_eq_true rfl) fun w0 S0 => ?_
  change G _ _ ⟨[(0, .row false 1 (rs.map iv)), (1, .fn 76 [.rp 1 [[.row false 1 (rs.map iv)]] 0 0, .rp 1 [[.int .i64 m]] 0 0])], [], 33⟩
  apply G.seq
  refine G.rg tab_ok ok_partedR (hk := ?_)
  apply G.seq
  refine G.rg tab_ok ok_partedR (hk := ?_)
  apply G.seq
  apply G.seq
  refine G.rg tab_ok ok_partedR (hk := ?_)
  apply G.block
  refine G.nm [1, 6, 7, 12, 13, 14] (h := ?_)
  refine G.loopX (fun j : Nat => ⟨[(1, .fn 76 [.rp 1 [[.row false 1 (rs.map iv)]] 0 0, .rp 1 [[.int .i64 m]] 0 0]), (6, .sl 0 0 (part (routeP rs m) rs j).1.length), (7, .sl 1 0 (part (routeP rs m) rs j).2.length), (12, .row false 1 (rs.map iv)), (13, .int .i64 rs.length), (14, .int .i64 j)], [some (1, (part (routeP rs m) rs j).1.map iv), some (1, (part (routeP rs m) rs j).2.map iv)], 33⟩) (fun j => j ≤ rs.length) (fun j => rs.length - j) (0) (Nat.zero_le _) (by simp [part]) ?_
  intro j hj J hJ
  have hw : IntKind.i64.wrap ((j : Int) + 1) = (j : Int) + 1 := wrap64 (by omega) (by omega)
  have hpl := part_len ((routeP rs m)) rs j
  have hp1 : (part (routeP rs m) rs j).1.length ≤ 400 := by omega
  have hp2 : (part (routeP rs m) rs j).2.length ≤ 400 := by omega
  clear hpl
  have ht1 : List.take ((part (routeP rs m) rs j).1).length (((part (routeP rs m) rs j).1).map iv) = ((part (routeP rs m) rs j).1).map iv := List.take_of_length_le (by simp)
  have ht2 : List.take ((part (routeP rs m) rs j).2).length (((part (routeP rs m) rs j).2).map iv) = ((part (routeP rs m) rs j).2).map iv := List.take_of_length_le (by simp)
  have hj0 : 0 ≤ (j : Int) := by omega
  apply G.seq
  refine G.rg tab_ok ok_partedR (hk := ?_)
  apply G.seq
  refine G.iff (h1 := fun h1 => ?_) (h2 := fun h1 => ?_)
  · try simp only [decide_eq_true_eq, decide_eq_false_iff_not, Bool.and_eq_true, Bool.and_eq_false_imp, Bool.or_eq_true, Bool.or_eq_false_iff, Bool.not_eq_true', Bool.not_eq_false', bne_iff_ne, beq_iff_eq, bne_eq_false_iff_eq, beq_eq_false_iff_ne, ne_eq, Int.ofNat_lt, Int.not_lt, Int.not_le, Int.ofNat_le, Nat.not_lt, Nat.not_le, gt_iff_lt, ge_iff_le] at h1
    apply G.skip
    apply G.seq
    apply G.block
    apply G.seq
    refine G.rg tab_ok ok_partedR (hk := ?_)
    apply G.seq
    refine G.rg tab_ok ok_partedR (hk := ?_)
    refine G.fg [1, 6, 7, 9, 12, 13, 14, 21] (hk := ?_)
    refine G.iff (h1 := fun h2 => ?_) (h2 := fun h2 => ?_)
    · try simp only [decide_eq_true_eq, decide_eq_false_iff_not, Bool.and_eq_true, Bool.and_eq_false_imp, Bool.or_eq_true, Bool.or_eq_false_iff, Bool.not_eq_true', Bool.not_eq_false', bne_iff_ne, beq_iff_eq, bne_eq_false_iff_eq, beq_eq_false_iff_ne, ne_eq, Int.ofNat_lt, Int.not_lt, Int.not_le, Int.ofNat_le, Nat.not_lt, Nat.not_le, gt_iff_lt, ge_iff_le] at h2
      have hb61 : ((((part (routeP rs m) rs j).1.length + 1 : Nat) : Int)) ≤ 4611686018427387904 := by omega
      have hc61 : ((part (routeP rs m) rs j).1.length + 1) * 8 ≤ 70368744177664 := by omega
      have hb62 : ((((part (routeP rs m) rs j).2.length + 1 : Nat) : Int)) ≤ 4611686018427387904 := by omega
      have hc62 : ((part (routeP rs m) rs j).2.length + 1) * 8 ≤ 70368744177664 := by omega
      refine G.rg tab_ok ok_partedR (hk := ?_)
      apply G.blk
      refine G.rg tab_ok ok_partedR (hk := ?_)
      refine G.nm [1, 6, 7, 12, 13, 14] (h := ?_)
      exact G.upto (hJ (j + 1) (by omega) (by omega)) (by first | (rw [part_y (show routeP rs m j = true from by unfold routeP; exact beq_iff_eq.2 h2)]; simp [iv]; done) | (rw [part_n (show routeP rs m j = false from by unfold routeP; exact beq_eq_false_iff_ne.2 h2)]; simp [iv]; done))
    · try simp only [decide_eq_true_eq, decide_eq_false_iff_not, Bool.and_eq_true, Bool.and_eq_false_imp, Bool.or_eq_true, Bool.or_eq_false_iff, Bool.not_eq_true', Bool.not_eq_false', bne_iff_ne, beq_iff_eq, bne_eq_false_iff_eq, beq_eq_false_iff_ne, ne_eq, Int.ofNat_lt, Int.not_lt, Int.not_le, Int.ofNat_le, Nat.not_lt, Nat.not_le, gt_iff_lt, ge_iff_le] at h2
      have hb71 : ((((part (routeP rs m) rs j).1.length + 1 : Nat) : Int)) ≤ 4611686018427387904 := by omega
      have hc71 : ((part (routeP rs m) rs j).1.length + 1) * 8 ≤ 70368744177664 := by omega
      have hb72 : ((((part (routeP rs m) rs j).2.length + 1 : Nat) : Int)) ≤ 4611686018427387904 := by omega
      have hc72 : ((part (routeP rs m) rs j).2.length + 1) * 8 ≤ 70368744177664 := by omega
      refine G.rg tab_ok ok_partedR (hk := ?_)
      apply G.blk
      refine G.rg tab_ok ok_partedR (hk := ?_)
      refine G.nm [1, 6, 7, 12, 13, 14] (h := ?_)
      exact G.upto (hJ (j + 1) (by omega) (by omega)) (by first | (rw [part_y (show routeP rs m j = true from by unfold routeP; exact beq_iff_eq.2 h2)]; simp [iv]; done) | (rw [part_n (show routeP rs m j = false from by unfold routeP; exact beq_eq_false_iff_ne.2 h2)]; simp [iv]; done))
  · try simp only [decide_eq_true_eq, decide_eq_false_iff_not, Bool.and_eq_true, Bool.and_eq_false_imp, Bool.or_eq_true, Bool.or_eq_false_iff, Bool.not_eq_true', Bool.not_eq_false', bne_iff_ne, beq_iff_eq, bne_eq_false_iff_eq, beq_eq_false_iff_ne, ne_eq, Int.ofNat_lt, Int.not_lt, Int.not_le, Int.ofNat_le, Nat.not_lt, Nat.not_le, gt_iff_lt, ge_iff_le] at h1
    refine G.exit rfl ?_
    apply G.seq
    refine G.rg tab_ok ok_partedR (hk := ?_)
    refine G.fin tab_ok (hr := ?_)
    obtain rfl : j = rs.length := by omega
    rfl
def r_partedR (xs0 : List A) (rr : A) : Prop := ∃ (rs : List Int) (m : Int), (rs.length ≤ 400) ∧ (0 < m) ∧ xs0 = [.row false 1 (rs.map iv), .fn 76 [.rp 1 [[.row false 1 (rs.map iv)]] 0 0, .rp 1 [[.int .i64 m]] 0 0]] ∧ rr = .tup [.row true 1 ((part (routeP rs m) rs rs.length).1.map iv), .row true 1 ((part (routeP rs m) rs rs.length).2.map iv)]
noncomputable def q_partedR : List A → Option A := kgr r_partedR
theorem k_partedR : KOk Try.prog (74, q_partedR) := kgr_ok (enters_of Try.func74 rfl rfl) (by rintro xs0 rr ⟨rs, m, hc1, hc2, rfl, rfl⟩; exact partedR_ac rs m hc1 hc2)
theorem e_partedR : ∀ (rs : List Int) (m : Int), (rs.length ≤ 400) → (0 < m) → q_partedR [.row false 1 (rs.map iv), .fn 76 [.rp 1 [[.row false 1 (rs.map iv)]] 0 0, .rp 1 [[.int .i64 m]] 0 0]] = some (.tup [.row true 1 ((part (routeP rs m) rs rs.length).1.map iv), .row true 1 ((part (routeP rs m) rs rs.length).2.map iv)]) := by
  intro rs m hc1 hc2
  refine kgr_eq (fun xs0 rr r2 h h2 => ?_) ⟨rs, m, hc1, hc2, rfl, rfl⟩
  obtain ⟨rs1, m1, _, _, e1, rfl⟩ := h; obtain ⟨rs2, m2, _, _, e2, rfl⟩ := h2
  rw [e1] at e2
  simp only [List.cons.injEq, A.int.injEq, A.bool.injEq, A.agg.injEq, A.row.injEq, A.fn.injEq, A.rp.injEq, insv_inj, iv_inj, true_and, and_true] at e2
  simp [e2]

theorem ok_splitStream : Kn.ok Try.prog (kof [(56, q_implIsStream), (74, q_partedS)]) := kof_cons k_implIsStream (kof_cons k_partedS ((kof_nil _)))
theorem splitStream_ac (rs : List Int) (hc1 : strOk rs = true) : AC Try.prog 28 [.row false 1 (rs.map iv)] (.tup [.row true 1 ((part evenP rs rs.length).1.map iv), .row true 1 ((part evenP rs rs.length).2.map iv)]) := by
  have e_implIsStream := e_implIsStream
  have e_partedS := e_partedS
  have hl4 := strOk_len2 hc1
  have hl5 : rs.length < 17592186044416 := by omega
  refine AC.of tab_ok Try.func28 rfl (Nat.le_of_ble_eq_true rfl) fun w0 S0 => ?_
  change G _ _ ⟨[(0, .row false 1 (rs.map iv))], [], 11⟩
  apply G.seq
  refine G.rg tab_ok ok_splitStream (hk := ?_)
  apply G.seq
  apply G.seq
  refine G.rg tab_ok ok_splitStream (hk := ?_)
  refine G.iffF (h2 := ?_)
  apply G.skip
  apply G.seq
  refine G.rg tab_ok ok_splitStream (hk := ?_)
  refine G.fin tab_ok (hr := ?_)
  rfl
def r_splitStream (xs0 : List A) (rr : A) : Prop := ∃ (rs : List Int), (strOk rs = true) ∧ xs0 = [.row false 1 (rs.map iv)] ∧ rr = .tup [.row true 1 ((part evenP rs rs.length).1.map iv), .row true 1 ((part evenP rs rs.length).2.map iv)]
noncomputable def q_splitStream : List A → Option A := kgr r_splitStream
theorem k_splitStream : KOk Try.prog (28, q_splitStream) := kgr_ok (enters_of Try.func28 rfl rfl) (by rintro xs0 rr ⟨rs, hc1, rfl, rfl⟩; exact splitStream_ac rs hc1)
theorem e_splitStream : ∀ (rs : List Int), (strOk rs = true) → q_splitStream [.row false 1 (rs.map iv)] = some (.tup [.row true 1 ((part evenP rs rs.length).1.map iv), .row true 1 ((part evenP rs rs.length).2.map iv)]) := by
  intro rs hc1
  refine kgr_eq (fun xs0 rr r2 h h2 => ?_) ⟨rs, hc1, rfl, rfl⟩
  obtain ⟨rs1, _, e1, rfl⟩ := h; obtain ⟨rs2, _, e2, rfl⟩ := h2
  rw [e1] at e2
  simp only [List.cons.injEq, A.int.injEq, A.bool.injEq, A.agg.injEq, A.row.injEq, A.fn.injEq, A.rp.injEq, insv_inj, iv_inj, true_and, and_true] at e2
  simp [e2]

theorem ok_routeStream : Kn.ok Try.prog (kof [(56, q_implIsStream), (74, q_partedR)]) := kof_cons k_implIsStream (kof_cons k_partedR ((kof_nil _)))
theorem routeStream_ac (rs : List Int) (m : Int) (hc1 : strOk rs = true) (hc2 : 0 < m) : AC Try.prog 29 [.row false 1 (rs.map iv), .int .i64 m] (.tup [.row true 1 ((part (routeP rs m) rs rs.length).1.map iv), .row true 1 ((part (routeP rs m) rs rs.length).2.map iv)]) := by
  have e_implIsStream := e_implIsStream
  have e_partedR := e_partedR
  have hl4 := strOk_len2 hc1
  have hl5 : rs.length < 17592186044416 := by omega
  have hmn : ¬ m ≤ 0 := by omega
  refine AC.of tab_ok Try.func29 rfl (Nat.le_of_ble_eq_true rfl) fun w0 S0 => ?_
  change G _ _ ⟨[(0, .row false 1 (rs.map iv)), (1, .int .i64 m)], [], 18⟩
  apply G.seq
  refine G.rg tab_ok ok_routeStream (hk := ?_)
  apply G.seq
  apply G.seq
  refine G.rg tab_ok ok_routeStream (hk := ?_)
  refine G.iffF (h2 := ?_)
  apply G.skip
  apply G.seq
  refine G.rg tab_ok ok_routeStream (hk := ?_)
  refine G.fin tab_ok (hr := ?_)
  rfl
def r_routeStream (xs0 : List A) (rr : A) : Prop := ∃ (rs : List Int) (m : Int), (strOk rs = true) ∧ (0 < m) ∧ xs0 = [.row false 1 (rs.map iv), .int .i64 m] ∧ rr = .tup [.row true 1 ((part (routeP rs m) rs rs.length).1.map iv), .row true 1 ((part (routeP rs m) rs rs.length).2.map iv)]
noncomputable def q_routeStream : List A → Option A := kgr r_routeStream
theorem k_routeStream : KOk Try.prog (29, q_routeStream) := kgr_ok (enters_of Try.func29 rfl rfl) (by rintro xs0 rr ⟨rs, m, hc1, hc2, rfl, rfl⟩; exact routeStream_ac rs m hc1 hc2)
theorem e_routeStream : ∀ (rs : List Int) (m : Int), (strOk rs = true) → (0 < m) → q_routeStream [.row false 1 (rs.map iv), .int .i64 m] = some (.tup [.row true 1 ((part (routeP rs m) rs rs.length).1.map iv), .row true 1 ((part (routeP rs m) rs rs.length).2.map iv)]) := by
  intro rs m hc1 hc2
  refine kgr_eq (fun xs0 rr r2 h h2 => ?_) ⟨rs, m, hc1, hc2, rfl, rfl⟩
  obtain ⟨rs1, m1, _, _, e1, rfl⟩ := h; obtain ⟨rs2, m2, _, _, e2, rfl⟩ := h2
  rw [e1] at e2
  simp only [List.cons.injEq, A.int.injEq, A.bool.injEq, A.agg.injEq, A.row.injEq, A.fn.injEq, A.rp.injEq, insv_inj, iv_inj, true_and, and_true] at e2
  simp [e2]

end Go.Proofs.Ytmijpnghcggdfaa.Ab
