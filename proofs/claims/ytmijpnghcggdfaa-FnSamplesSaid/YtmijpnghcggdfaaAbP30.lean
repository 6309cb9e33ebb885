/- Walks of functions of the program: what each answers, for all arguments that meet its conditions. -/
import Derived.Test.YtmijpnghcggdfaaAbStp
namespace Go.Proofs.Ytmijpnghcggdfaa.Ab
open Go
set_option linter.unusedVariables false
set_option linter.unusedSimpArgs false
set_option maxHeartbeats 4000000

theorem specWrap_ac (n : Int)  : AC Try.prog 117 [.int .i64 n] (.int .i64 (wrapT n)) := by
  have ht := tmod_lt n 1999999 (by omega)
  have hw1 : IntKind.i64.wrap (n.tmod 1999999 - 1999999) = n.tmod 1999999 - 1999999 := wrap64 (by omega) (by omega)
  have hw2 : IntKind.i64.wrap (n.tmod 1999999 + 1999999) = n.tmod 1999999 + 1999999 := wrap64 (by omega) (by omega)
  refine AC.of tab_ok Try.func117 rfl (Nat.le_of_ble_eq_true rfl) fun w0 S0 => ?_
  change G _ _ ⟨[(0, .int .i64 n)], [], 15⟩
  apply G.seq
  refine G.rg tab_ok (kof_nil _) (hk := ?_)
  apply G.seq
  refine G.rg tab_ok (kof_nil _) (hk := ?_)
  apply G.seq
  apply G.seq
  refine G.rg tab_ok (kof_nil _) (hk := ?_)
  refine G.iff (h1 := fun h1 => ?_) (h2 := fun h1 => ?_)
  · try simp only [decide_eq_true_eq, decide_eq_false_iff_not, Bool.and_eq_true, Bool.and_eq_false_imp, Bool.or_eq_true, Bool.or_eq_false_iff, Bool.not_eq_true', Bool.not_eq_false', bne_iff_ne, beq_iff_eq, bne_eq_false_iff_eq, beq_eq_false_iff_ne, ne_eq, Int.ofNat_lt, Int.not_lt, Int.not_le, Int.ofNat_le, Nat.not_lt, Nat.not_le, gt_iff_lt, ge_iff_le] at h1
    refine G.rg tab_ok (kof_nil _) (hk := ?_)
    apply G.seq
    apply G.seq
    refine G.rg tab_ok (kof_nil _) (hk := ?_)
    refine G.fg [3, 11] (hk := ?_)
    refine G.iff (h1 := fun h2 => ?_) (h2 := fun h2 => ?_)
    · try simp only [decide_eq_true_eq, decide_eq_false_iff_not, Bool.and_eq_true, Bool.and_eq_false_imp, Bool.or_eq_true, Bool.or_eq_false_iff, Bool.not_eq_true', Bool.not_eq_false', bne_iff_ne, beq_iff_eq, bne_eq_false_iff_eq, beq_eq_false_iff_ne, ne_eq, Int.ofNat_lt, Int.not_lt, Int.not_le, Int.ofNat_le, Nat.not_lt, Nat.not_le, gt_iff_lt, ge_iff_le] at h2
      refine G.rg tab_ok (kof_nil _) (hk := ?_)
      apply G.seq
      refine G.rg tab_ok (kof_nil _) (hk := ?_)
      refine G.fin tab_ok (hr := ?_)
      simp only [oneOrTup, wrapT]
      congr 1
      repeat' split
      all_goals omega
    · try simp only [decide_eq_true_eq, decide_eq_false_iff_not, Bool.and_eq_true, Bool.and_eq_false_imp, Bool.or_eq_true, Bool.or_eq_false_iff, Bool.not_eq_true', Bool.not_eq_false', bne_iff_ne, beq_iff_eq, bne_eq_false_iff_eq, beq_eq_false_iff_ne, ne_eq, Int.ofNat_lt, Int.not_lt, Int.not_le, Int.ofNat_le, Nat.not_lt, Nat.not_le, gt_iff_lt, ge_iff_le] at h2
      apply G.skip
      apply G.seq
      refine G.rg tab_ok (kof_nil _) (hk := ?_)
      refine G.fin tab_ok (hr := ?_)
      simp only [oneOrTup, wrapT]
      congr 1
      repeat' split
      all_goals omega
  · try simp only [decide_eq_true_eq, decide_eq_false_iff_not, Bool.and_eq_true, Bool.and_eq_false_imp, Bool.or_eq_true, Bool.or_eq_false_iff, Bool.not_eq_true', Bool.not_eq_false', bne_iff_ne, beq_iff_eq, bne_eq_false_iff_eq, beq_eq_false_iff_ne, ne_eq, Int.ofNat_lt, Int.not_lt, Int.not_le, Int.ofNat_le, Nat.not_lt, Nat.not_le, gt_iff_lt, ge_iff_le] at h1
    apply G.skip
    apply G.seq
    apply G.seq
    refine G.rg tab_ok (kof_nil _) (hk := ?_)
    refine G.iff (h1 := fun h3 => ?_) (h2 := fun h3 => ?_)
    · try simp only [decide_eq_true_eq, decide_eq_false_iff_not, Bool.and_eq_true, Bool.and_eq_false_imp, Bool.or_eq_true, Bool.or_eq_false_iff, Bool.not_eq_true', Bool.not_eq_false', bne_iff_ne, beq_iff_eq, bne_eq_false_iff_eq, beq_eq_false_iff_ne, ne_eq, Int.ofNat_lt, Int.not_lt, Int.not_le, Int.ofNat_le, Nat.not_lt, Nat.not_le, gt_iff_lt, ge_iff_le] at h3
      refine G.rg tab_ok (kof_nil _) (hk := ?_)
      apply G.seq
      refine G.rg tab_ok (kof_nil _) (hk := ?_)
      refine G.fin tab_ok (hr := ?_)
      simp only [oneOrTup, wrapT]
      congr 1
      repeat' split
      all_goals omega
    · try simp only [decide_eq_true_eq, decide_eq_false_iff_not, Bool.and_eq_true, Bool.and_eq_false_imp, Bool.or_eq_true, Bool.or_eq_false_iff, Bool.not_eq_true', Bool.not_eq_false', bne_iff_ne, beq_iff_eq, bne_eq_false_iff_eq, beq_eq_false_iff_ne, ne_eq, Int.ofNat_lt, Int.not_lt, Int.not_le, Int.ofNat_le, Nat.not_lt, Nat.not_le, gt_iff_lt, ge_iff_le] at h3
      apply G.skip
      apply G.seq
      refine G.rg tab_ok (kof_nil _) (hk := ?_)
      refine G.fin tab_ok (hr := ?_)
      simp only [oneOrTup, wrapT]
      congr 1
      repeat' split
      all_goals omega
def r_specWrap (xs0 : List A) (rr : A) : Prop := ∃ (n : Int), xs0 = [.int .i64 n] ∧ rr = .int .i64 (wrapT n)
noncomputable def q_specWrap : List A → Option A := kgr r_specWrap
theorem k_specWrap : KOk Try.prog (117, q_specWrap) := kgr_ok (enters_of Try.func117 rfl rfl) (by rintro xs0 rr ⟨n, rfl, rfl⟩; exact specWrap_ac n)
theorem e_specWrap : ∀ (n : Int), q_specWrap [.int .i64 n] = some (.int .i64 (wrapT n)) := by
  intro n
  refine kgr_eq (fun xs0 rr r2 h h2 => ?_) ⟨n, rfl, rfl⟩
  obtain ⟨n1, e1, rfl⟩ := h; obtain ⟨n2, e2, rfl⟩ := h2
  rw [e1] at e2
  simp only [List.cons.injEq, A.int.injEq, A.bool.injEq, A.agg.injEq, A.row.injEq, A.fn.injEq, A.rp.injEq, insv_inj, iv_inj, true_and, and_true] at e2
  simp [e2]

theorem implWrap_ac (n : Int)  : AC Try.prog 23 [.int .i64 n] (.int .i64 (wrapT n)) := by
  have ht := tmod_lt n 1999999 (by omega)
  have hw1 : IntKind.i64.wrap (n.tmod 1999999 - 1999999) = n.tmod 1999999 - 1999999 := wrap64 (by omega) (by omega)
  have hw2 : IntKind.i64.wrap (n.tmod 1999999 + 1999999) = n.tmod 1999999 + 1999999 := wrap64 (by omega) (by omega)
  refine AC.of tab_ok Try.func23 rfl (Nat.le_of_ble_eq_true rfl) fun w0 S0 => ?_
  change G _ _ ⟨[(0, .int .i64 n)], [], 16⟩
  apply G.seq
  refine G.rg tab_ok (kof_nil _) (hk := ?_)
  apply G.seq
  refine G.rg tab_ok (kof_nil _) (hk := ?_)
  apply G.seq
  apply G.block
  apply G.seq
  refine G.rg tab_ok (kof_nil _) (hk := ?_)
  refine G.iff (h1 := fun h1 => ?_) (h2 := fun h1 => ?_)
  · try simp only [decide_eq_true_eq, decide_eq_false_iff_not, Bool.and_eq_true, Bool.and_eq_false_imp, Bool.or_eq_true, Bool.or_eq_false_iff, Bool.not_eq_true', Bool.not_eq_false', bne_iff_ne, beq_iff_eq, bne_eq_false_iff_eq, beq_eq_false_iff_ne, ne_eq, Int.ofNat_lt, Int.not_lt, Int.not_le, Int.ofNat_le, Nat.not_lt, Nat.not_le, gt_iff_lt, ge_iff_le] at h1
    apply G.seq
    refine G.rg tab_ok (kof_nil _) (hk := ?_)
    refine G.fin tab_ok (hr := ?_)
    simp only [oneOrTup, wrapT]
    congr 1
    repeat' split
    all_goals omega
  · try simp only [decide_eq_true_eq, decide_eq_false_iff_not, Bool.and_eq_true, Bool.and_eq_false_imp, Bool.or_eq_true, Bool.or_eq_false_iff, Bool.not_eq_true', Bool.not_eq_false', bne_iff_ne, beq_iff_eq, bne_eq_false_iff_eq, beq_eq_false_iff_ne, ne_eq, Int.ofNat_lt, Int.not_lt, Int.not_le, Int.ofNat_le, Nat.not_lt, Nat.not_le, gt_iff_lt, ge_iff_le] at h1
    apply G.seq
    refine G.rg tab_ok (kof_nil _) (hk := ?_)
    refine G.fg [0, 10] (hk := ?_)
    refine G.iff (h1 := fun h2 => ?_) (h2 := fun h2 => ?_)
    · try simp only [decide_eq_true_eq, decide_eq_false_iff_not, Bool.and_eq_true, Bool.and_eq_false_imp, Bool.or_eq_true, Bool.or_eq_false_iff, Bool.not_eq_true', Bool.not_eq_false', bne_iff_ne, beq_iff_eq, bne_eq_false_iff_eq, beq_eq_false_iff_ne, ne_eq, Int.ofNat_lt, Int.not_lt, Int.not_le, Int.ofNat_le, Nat.not_lt, Nat.not_le, gt_iff_lt, ge_iff_le] at h2
      apply G.seq
      refine G.rg tab_ok (kof_nil _) (hk := ?_)
      refine G.fin tab_ok (hr := ?_)
      simp only [oneOrTup, wrapT]
      congr 1
      repeat' split
      all_goals omega
    · try simp only [decide_eq_true_eq, decide_eq_false_iff_not, Bool.and_eq_true, Bool.and_eq_false_imp, Bool.or_eq_true, Bool.or_eq_false_iff, Bool.not_eq_true', Bool.not_eq_false', bne_iff_ne, beq_iff_eq, bne_eq_false_iff_eq, beq_eq_false_iff_ne, ne_eq, Int.ofNat_lt, Int.not_lt, Int.not_le, Int.ofNat_le, Nat.not_lt, Nat.not_le, gt_iff_lt, ge_iff_le] at h2
      apply G.skip
      apply G.blk
      apply G.seq
      refine G.rg tab_ok (kof_nil _) (hk := ?_)
      refine G.fin tab_ok (hr := ?_)
      simp only [oneOrTup, wrapT]
      congr 1
      repeat' split
      all_goals omega
def r_implWrap (xs0 : List A) (rr : A) : Prop := ∃ (n : Int), xs0 = [.int .i64 n] ∧ rr = .int .i64 (wrapT n)
noncomputable def q_implWrap : List A → Option A := kgr r_implWrap
theorem k_implWrap : KOk Try.prog (23, q_implWrap) := kgr_ok (enters_of Try.func23 rfl rfl) (by rintro xs0 rr ⟨n, rfl, rfl⟩; exact implWrap_ac n)
theorem e_implWrap : ∀ (n : Int), q_implWrap [.int .i64 n] = some (.int .i64 (wrapT n)) := by
  intro n
  refine kgr_eq (fun xs0 rr r2 h h2 => ?_) ⟨n, rfl, rfl⟩
  obtain ⟨n1, e1, rfl⟩ := h; obtain ⟨n2, e2, rfl⟩ := h2
  rw [e1] at e2
  simp only [List.cons.injEq, A.int.injEq, A.bool.injEq, A.agg.injEq, A.row.injEq, A.fn.injEq, A.rp.injEq, insv_inj, iv_inj, true_and, and_true] at e2
  simp [e2]

theorem l2Rest_ac (x : Int) (c : Int) (hc1 : -999999 ≤ c ∧ c ≤ 999999) : AC Try.prog 118 [.int .i64 x, .int .i64 c] (.int .i64 (restT x c)) := by
  have hm : 0 ≤ max c (-c) ∧ max c (-c) ≤ 999999 := by omega
  have hn : IntKind.i64.wrap (0 - c) = -c := by rw [Int.zero_sub]; exact wrap64 (by omega) (by omega)
  have hmx : (if -c > c then -c else c) = max c (-c) := by split <;> omega
  refine AC.of tab_ok Try.func118 rfl (Nat.le_of_ble_eq_true rfl) fun w0 S0 => ?_
  change G _ _ ⟨[(0, .int .i64 x), (1, .int .i64 c)], [], 21⟩
  apply G.seq
  refine G.rg tab_ok (kof_nil _) (hk := ?_)
  apply G.seq
  refine G.rg tab_ok (kof_nil _) (hk := ?_)
  apply G.seq
  apply G.seq
  refine G.rg tab_ok (kof_nil _) (hk := ?_)
  refine G.iff (h1 := fun h1 => ?_) (h2 := fun h1 => ?_)
  · try simp only [decide_eq_true_eq, decide_eq_false_iff_not, Bool.and_eq_true, Bool.and_eq_false_imp, Bool.or_eq_true, Bool.or_eq_false_iff, Bool.not_eq_true', Bool.not_eq_false', bne_iff_ne, beq_iff_eq, bne_eq_false_iff_eq, beq_eq_false_iff_ne, ne_eq, Int.ofNat_lt, Int.not_lt, Int.not_le, Int.ofNat_le, Nat.not_lt, Nat.not_le, gt_iff_lt, ge_iff_le] at h1
    apply G.seq
    refine G.rg tab_ok (kof_nil _) (hk := ?_)
    refine G.fin tab_ok (hr := ?_)
    have e : c = 0 := by omega
    simp only [oneOrTup, restT, e, if_true]
  · try simp only [decide_eq_true_eq, decide_eq_false_iff_not, Bool.and_eq_true, Bool.and_eq_false_imp, Bool.or_eq_true, Bool.or_eq_false_iff, Bool.not_eq_true', Bool.not_eq_false', bne_iff_ne, beq_iff_eq, bne_eq_false_iff_eq, beq_eq_false_iff_ne, ne_eq, Int.ofNat_lt, Int.not_lt, Int.not_le, Int.ofNat_le, Nat.not_lt, Nat.not_le, gt_iff_lt, ge_iff_le] at h1
    apply G.skip
    apply G.seq
    have hz : ¬ max c (-c) = 0 := h1
    have ht := tmod_lt x (max c (-c)) (by omega)
    have hw : IntKind.i64.wrap (x.tmod (max c (-c)) + max c (-c)) = x.tmod (max c (-c)) + max c (-c) := wrap64 (by omega) (by omega)
    refine G.rg tab_ok (kof_nil _) (hk := ?_)
    apply G.seq
    apply G.seq
    refine G.rg tab_ok (kof_nil _) (hk := ?_)
    refine G.fg [1, 5, 16] (hk := ?_)
    refine G.iff (h1 := fun h2 => ?_) (h2 := fun h2 => ?_)
    · try simp only [decide_eq_true_eq, decide_eq_false_iff_not, Bool.and_eq_true, Bool.and_eq_false_imp, Bool.or_eq_true, Bool.or_eq_false_iff, Bool.not_eq_true', Bool.not_eq_false', bne_iff_ne, beq_iff_eq, bne_eq_false_iff_eq, beq_eq_false_iff_ne, ne_eq, Int.ofNat_lt, Int.not_lt, Int.not_le, Int.ofNat_le, Nat.not_lt, Nat.not_le, gt_iff_lt, ge_iff_le] at h2
      refine G.rg tab_ok (kof_nil _) (hk := ?_)
      apply G.seq
      refine G.rg tab_ok (kof_nil _) (hk := ?_)
      refine G.fin tab_ok (hr := ?_)
      have e : c ≠ 0 := by omega
      simp only [oneOrTup, restT, e, if_false, h2, if_true]
    · try simp only [decide_eq_true_eq, decide_eq_false_iff_not, Bool.and_eq_true, Bool.and_eq_false_imp, Bool.or_eq_true, Bool.or_eq_false_iff, Bool.not_eq_true', Bool.not_eq_false', bne_iff_ne, beq_iff_eq, bne_eq_false_iff_eq, beq_eq_false_iff_ne, ne_eq, Int.ofNat_lt, Int.not_lt, Int.not_le, Int.ofNat_le, Nat.not_lt, Nat.not_le, gt_iff_lt, ge_iff_le] at h2
      apply G.skip
      apply G.seq
      refine G.rg tab_ok (kof_nil _) (hk := ?_)
      refine G.fin tab_ok (hr := ?_)
      have e : c ≠ 0 := by omega
      have h2 : ¬ x.tmod (max c (-c)) < 0 := by omega
      simp only [oneOrTup, restT, e, if_false, h2]
def r_l2Rest (xs0 : List A) (rr : A) : Prop := ∃ (x : Int) (c : Int), (-999999 ≤ c ∧ c ≤ 999999) ∧ xs0 = [.int .i64 x, .int .i64 c] ∧ rr = .int .i64 (restT x c)
noncomputable def q_l2Rest : List A → Option A := kgr r_l2Rest
theorem k_l2Rest : KOk Try.prog (118, q_l2Rest) := kgr_ok (enters_of Try.func118 rfl rfl) (by rintro xs0 rr ⟨x, c, hc1, rfl, rfl⟩; exact l2Rest_ac x c hc1)
theorem e_l2Rest : ∀ (x : Int) (c : Int), (-999999 ≤ c ∧ c ≤ 999999) → q_l2Rest [.int .i64 x, .int .i64 c] = some (.int .i64 (restT x c)) := by
  intro x c hc1
  refine kgr_eq (fun xs0 rr r2 h h2 => ?_) ⟨x, c, hc1, rfl, rfl⟩
  obtain ⟨x1, c1, _, e1, rfl⟩ := h; obtain ⟨x2, c2, _, e2, rfl⟩ := h2
  rw [e1] at e2
  simp only [List.cons.injEq, A.int.injEq, A.bool.injEq, A.agg.injEq, A.row.injEq, A.fn.injEq, A.rp.injEq, insv_inj, iv_inj, true_and, and_true] at e2
  simp [e2]

theorem implRest_ac (x : Int) (c : Int) (hc1 : -999999 ≤ c ∧ c ≤ 999999) : AC Try.prog 98 [.int .i64 x, .int .i64 c] (.int .i64 (restT x c)) := by
  have hm : 0 ≤ max c (-c) ∧ max c (-c) ≤ 999999 := by omega
  have hn : IntKind.i64.wrap (0 - c) = -c := by rw [Int.zero_sub]; exact wrap64 (by omega) (by omega)
  have hmx : (if -c > c then -c else c) = max c (-c) := by split <;> omega
  refine AC.of tab_ok Try.func98 rfl (Nat.le_of_ble_eq_true rfl) fun w0 S0 => ?_
  change G _ _ ⟨[(0, .int .i64 x), (1, .int .i64 c)], [], 20⟩
  apply G.seq
  refine G.rg tab_ok (kof_nil _) (hk := ?_)
  apply G.seq
  apply G.seq
  refine G.rg tab_ok (kof_nil _) (hk := ?_)
  refine G.iff (h1 := fun h1 => ?_) (h2 := fun h1 => ?_)
  · try simp only [decide_eq_true_eq, decide_eq_false_iff_not, Bool.and_eq_true, Bool.and_eq_false_imp, Bool.or_eq_true, Bool.or_eq_false_iff, Bool.not_eq_true', Bool.not_eq_false', bne_iff_ne, beq_iff_eq, bne_eq_false_iff_eq, beq_eq_false_iff_ne, ne_eq, Int.ofNat_lt, Int.not_lt, Int.not_le, Int.ofNat_le, Nat.not_lt, Nat.not_le, gt_iff_lt, ge_iff_le] at h1
    apply G.seq
    refine G.rg tab_ok (kof_nil _) (hk := ?_)
    refine G.fin tab_ok (hr := ?_)
    simp only [oneOrTup, restT, h1, if_true]
  · try simp only [decide_eq_true_eq, decide_eq_false_iff_not, Bool.and_eq_true, Bool.and_eq_false_imp, Bool.or_eq_true, Bool.or_eq_false_iff, Bool.not_eq_true', Bool.not_eq_false', bne_iff_ne, beq_iff_eq, bne_eq_false_iff_eq, beq_eq_false_iff_ne, ne_eq, Int.ofNat_lt, Int.not_lt, Int.not_le, Int.ofNat_le, Nat.not_lt, Nat.not_le, gt_iff_lt, ge_iff_le] at h1
    apply G.skip
    apply G.seq
    refine G.rg tab_ok (kof_nil _) (hk := ?_)
    apply G.seq
    have hz : ¬ max c (-c) = 0 := by omega
    have ht := tmod_lt x (max c (-c)) (by omega)
    have hw : IntKind.i64.wrap (x.tmod (max c (-c)) + max c (-c)) = x.tmod (max c (-c)) + max c (-c) := wrap64 (by omega) (by omega)
    refine G.rg tab_ok (kof_nil _) (hk := ?_)
    apply G.seq
    apply G.seq
    refine G.rg tab_ok (kof_nil _) (hk := ?_)
    refine G.fg [0, 1, 15] (hk := ?_)
    refine G.iff (h1 := fun h2 => ?_) (h2 := fun h2 => ?_)
    · try simp only [decide_eq_true_eq, decide_eq_false_iff_not, Bool.and_eq_true, Bool.and_eq_false_imp, Bool.or_eq_true, Bool.or_eq_false_iff, Bool.not_eq_true', Bool.not_eq_false', bne_iff_ne, beq_iff_eq, bne_eq_false_iff_eq, beq_eq_false_iff_ne, ne_eq, Int.ofNat_lt, Int.not_lt, Int.not_le, Int.ofNat_le, Nat.not_lt, Nat.not_le, gt_iff_lt, ge_iff_le] at h2
      refine G.rg tab_ok (kof_nil _) (hk := ?_)
      apply G.seq
      refine G.rg tab_ok (kof_nil _) (hk := ?_)
      refine G.fin tab_ok (hr := ?_)
      have e : c ≠ 0 := by omega
      simp only [oneOrTup, restT, e, if_false, h2, if_true]
    · try simp only [decide_eq_true_eq, decide_eq_false_iff_not, Bool.and_eq_true, Bool.and_eq_false_imp, Bool.or_eq_true, Bool.or_eq_false_iff, Bool.not_eq_true', Bool.not_eq_false', bne_iff_ne, beq_iff_eq, bne_eq_false_iff_eq, beq_eq_false_iff_ne, ne_eq, Int.ofNat_lt, Int.not_lt, Int.not_le, Int.ofNat_le, Nat.not_lt, Nat.not_le, gt_iff_lt, ge_iff_le] at h2
      apply G.skip
      apply G.seq
      refine G.rg tab_ok (kof_nil _) (hk := ?_)
      refine G.fin tab_ok (hr := ?_)
      have e : c ≠ 0 := by omega
      have h2 : ¬ x.tmod (max c (-c)) < 0 := by omega
      simp only [oneOrTup, restT, e, if_false, h2]
def r_implRest (xs0 : List A) (rr : A) : Prop := ∃ (x : Int) (c : Int), (-999999 ≤ c ∧ c ≤ 999999) ∧ xs0 = [.int .i64 x, .int .i64 c] ∧ rr = .int .i64 (restT x c)
noncomputable def q_implRest : List A → Option A := kgr r_implRest
theorem k_implRest : KOk Try.prog (98, q_implRest) := kgr_ok (enters_of Try.func98 rfl rfl) (by rintro xs0 rr ⟨x, c, hc1, rfl, rfl⟩; exact implRest_ac x c hc1)
theorem e_implRest : ∀ (x : Int) (c : Int), (-999999 ≤ c ∧ c ≤ 999999) → q_implRest [.int .i64 x, .int .i64 c] = some (.int .i64 (restT x c)) := by
  intro x c hc1
  refine kgr_eq (fun xs0 rr r2 h h2 => ?_) ⟨x, c, hc1, rfl, rfl⟩
  obtain ⟨x1, c1, _, e1, rfl⟩ := h; obtain ⟨x2, c2, _, e2, rfl⟩ := h2
  rw [e1] at e2
  simp only [List.cons.injEq, A.int.injEq, A.bool.injEq, A.agg.injEq, A.row.injEq, A.fn.injEq, A.rp.injEq, insv_inj, iv_inj, true_and, and_true] at e2
  simp [e2]

theorem ok_l2Value : Kn.ok Try.prog (kof [(117, q_specWrap), (118, q_l2Rest)]) := kof_cons k_specWrap (kof_cons k_l2Rest ((kof_nil _)))
theorem l2Value_ac (a : Int) (b : Int) (c : Int) (d : Int) (rs : List Int) (token : Int) (hc1 : RegOk (a, b, c, d) rs) : AC Try.prog 109 [.agg [.int .i64 a, .int .i64 b, .int .i64 c, .int .i64 d], .row false 1 (rs.map iv), .int .i64 token] (.int .i64 (valR (a, b, c, d) rs token)) := by
  have e_specWrap := e_specWrap
  have e_l2Rest := e_l2Rest
  have hb := hc1.b8
  have ha0 : 0 ≤ b := hc1.a0
  have ha1 : b < (rs.length : Int) := hc1.a1
  have ha2 : b.toNat < rs.length := by omega
  refine AC.of tab_ok Try.func109 rfl (Nat.le_of_ble_eq_true rfl) fun w0 S0 => ?_
  change G _ _ ⟨[(0, .agg [.int .i64 a, .int .i64 b, .int .i64 c, .int .i64 d]), (1, .row false 1 (rs.map iv)), (2, .int .i64 token)], [], 76⟩
  apply G.seq
  refine G.rg tab_ok ok_l2Value (hk := ?_)
  apply G.seq
  apply G.seq
  refine G.rg tab_ok ok_l2Value (hk := ?_)
  apply G.block
  apply G.seq
  refine G.rg tab_ok ok_l2Value (hk := ?_)
  refine G.iff (h1 := fun h1 => ?_) (h2 := fun h1 => ?_)
  · try simp only [decide_eq_true_eq, decide_eq_false_iff_not, Bool.and_eq_true, Bool.and_eq_false_imp, Bool.or_eq_true, Bool.or_eq_false_iff, Bool.not_eq_true', Bool.not_eq_false', bne_iff_ne, beq_iff_eq, bne_eq_false_iff_eq, beq_eq_false_iff_ne, ne_eq, Int.ofNat_lt, Int.not_lt, Int.not_le, Int.ofNat_le, Nat.not_lt, Nat.not_le, gt_iff_lt, ge_iff_le] at h1
    apply G.seq
    refine G.rg tab_ok ok_l2Value (hk := ?_)
    refine G.fin tab_ok (hr := ?_)
    simp only [oneOrTup, valR, rg, if_true, if_false, Int.reduceEq, *]
  · try simp only [decide_eq_true_eq, decide_eq_false_iff_not, Bool.and_eq_true, Bool.and_eq_false_imp, Bool.or_eq_true, Bool.or_eq_false_iff, Bool.not_eq_true', Bool.not_eq_false', bne_iff_ne, beq_iff_eq, bne_eq_false_iff_eq, beq_eq_false_iff_ne, ne_eq, Int.ofNat_lt, Int.not_lt, Int.not_le, Int.ofNat_le, Nat.not_lt, Nat.not_le, gt_iff_lt, ge_iff_le] at h1
    apply G.seq
    refine G.rg tab_ok ok_l2Value (hk := ?_)
    refine G.iff (h1 := fun h2 => ?_) (h2 := fun h2 => ?_)
    · try simp only [decide_eq_true_eq, decide_eq_false_iff_not, Bool.and_eq_true, Bool.and_eq_false_imp, Bool.or_eq_true, Bool.or_eq_false_iff, Bool.not_eq_true', Bool.not_eq_false', bne_iff_ne, beq_iff_eq, bne_eq_false_iff_eq, beq_eq_false_iff_ne, ne_eq, Int.ofNat_lt, Int.not_lt, Int.not_le, Int.ofNat_le, Nat.not_lt, Nat.not_le, gt_iff_lt, ge_iff_le] at h2
      apply G.seq
      refine G.rg tab_ok ok_l2Value (hk := ?_)
      refine G.fin tab_ok (hr := ?_)
      simp only [oneOrTup, valR, rg, if_true, if_false, Int.reduceEq, *]
    · try simp only [decide_eq_true_eq, decide_eq_false_iff_not, Bool.and_eq_true, Bool.and_eq_false_imp, Bool.or_eq_true, Bool.or_eq_false_iff, Bool.not_eq_true', Bool.not_eq_false', bne_iff_ne, beq_iff_eq, bne_eq_false_iff_eq, beq_eq_false_iff_ne, ne_eq, Int.ofNat_lt, Int.not_lt, Int.not_le, Int.ofNat_le, Nat.not_lt, Nat.not_le, gt_iff_lt, ge_iff_le] at h2
      apply G.seq
      refine G.rg tab_ok ok_l2Value (hk := ?_)
      refine G.fg [1, 3, 8, 16, 18, 19, 20, 21, 22, 23, 24, 25, 26, 27, 28, 29, 32, 33, 34, 35, 36, 37, 38, 39, 40, 41, 42, 43, 46, 47, 48, 49, 50, 51, 52, 53, 54, 55, 56, 57, 60, 61, 62, 63, 64, 65, 66, 67, 68, 69, 70] (hk := ?_)
      refine G.iff (h1 := fun h3 => ?_) (h2 := fun h3 => ?_)
      · try simp only [decide_eq_true_eq, decide_eq_false_iff_not, Bool.and_eq_true, Bool.and_eq_false_imp, Bool.or_eq_true, Bool.or_eq_false_iff, Bool.not_eq_true', Bool.not_eq_false', bne_iff_ne, beq_iff_eq, bne_eq_false_iff_eq, beq_eq_false_iff_ne, ne_eq, Int.ofNat_lt, Int.not_lt, Int.not_le, Int.ofNat_le, Nat.not_lt, Nat.not_le, gt_iff_lt, ge_iff_le] at h3
        apply G.seq
        obtain ⟨q0, q1, q2, q3⟩ := hc1.b0 (by simp only; omega)
        simp only at q0 q1 q2 q3
        have q4 : c.toNat < rs.length := by omega
        have q5 : d.toNat < rs.length := by omega
        have tb : -999999 ≤ rs.getD c.toNat default ∧ rs.getD c.toNat default ≤ 999999 := hc1.rg q0 q1
        have tc : -999999 ≤ rs.getD d.toNat default ∧ rs.getD d.toNat default ≤ 999999 := hc1.rg q2 q3
        have hw : IntKind.i64.wrap (rs.getD c.toNat default + rs.getD d.toNat default) = rs.getD c.toNat default + rs.getD d.toNat default := wrap64 (by omega) (by omega)
        refine G.dr mixed tab_ok ok_l2Value [0, 1, 2, 3, 4, 5, 6, 7, 8, 9, 10, 11, 12] (hk := ?_)
        refine G.fin tab_ok (hr := ?_)
        simp only [oneOrTup, valR, rg, if_true, if_false, Int.reduceEq, *]
      · try simp only [decide_eq_true_eq, decide_eq_false_iff_not, Bool.and_eq_true, Bool.and_eq_false_imp, Bool.or_eq_true, Bool.or_eq_false_iff, Bool.not_eq_true', Bool.not_eq_false', bne_iff_ne, beq_iff_eq, bne_eq_false_iff_eq, beq_eq_false_iff_ne, ne_eq, Int.ofNat_lt, Int.not_lt, Int.not_le, Int.ofNat_le, Nat.not_lt, Nat.not_le, gt_iff_lt, ge_iff_le] at h3
        apply G.seq
        refine G.rg tab_ok ok_l2Value (hk := ?_)
        refine G.iff (h1 := fun h4 => ?_) (h2 := fun h4 => ?_)
        · try simp only [decide_eq_true_eq, decide_eq_false_iff_not, Bool.and_eq_true, Bool.and_eq_false_imp, Bool.or_eq_true, Bool.or_eq_false_iff, Bool.not_eq_true', Bool.not_eq_false', bne_iff_ne, beq_iff_eq, bne_eq_false_iff_eq, beq_eq_false_iff_ne, ne_eq, Int.ofNat_lt, Int.not_lt, Int.not_le, Int.ofNat_le, Nat.not_lt, Nat.not_le, gt_iff_lt, ge_iff_le] at h4
          apply G.seq
          obtain ⟨q0, q1, q2, q3⟩ := hc1.b0 (by simp only; omega)
          simp only at q0 q1 q2 q3
          have q4 : c.toNat < rs.length := by omega
          have q5 : d.toNat < rs.length := by omega
          have tb : -999999 ≤ rs.getD c.toNat default ∧ rs.getD c.toNat default ≤ 999999 := hc1.rg q0 q1
          have tc : -999999 ≤ rs.getD d.toNat default ∧ rs.getD d.toNat default ≤ 999999 := hc1.rg q2 q3
          have hw : IntKind.i64.wrap (rs.getD c.toNat default - rs.getD d.toNat default) = rs.getD c.toNat default - rs.getD d.toNat default := wrap64 (by omega) (by omega)
          refine G.dr mixed tab_ok ok_l2Value [0, 1, 2, 3, 4, 5, 6, 7, 8, 9, 10, 11, 12] (hk := ?_)
          refine G.fin tab_ok (hr := ?_)
          simp only [oneOrTup, valR, rg, if_true, if_false, Int.reduceEq, *]
        · try simp only [decide_eq_true_eq, decide_eq_false_iff_not, Bool.and_eq_true, Bool.and_eq_false_imp, Bool.or_eq_true, Bool.or_eq_false_iff, Bool.not_eq_true', Bool.not_eq_false', bne_iff_ne, beq_iff_eq, bne_eq_false_iff_eq, beq_eq_false_iff_ne, ne_eq, Int.ofNat_lt, Int.not_lt, Int.not_le, Int.ofNat_le, Nat.not_lt, Nat.not_le, gt_iff_lt, ge_iff_le] at h4
          apply G.seq
          refine G.rg tab_ok ok_l2Value (hk := ?_)
          refine G.iff (h1 := fun h5 => ?_) (h2 := fun h5 => ?_)
          · try simp only [decide_eq_true_eq, decide_eq_false_iff_not, Bool.and_eq_true, Bool.and_eq_false_imp, Bool.or_eq_true, Bool.or_eq_false_iff, Bool.not_eq_true', Bool.not_eq_false', bne_iff_ne, beq_iff_eq, bne_eq_false_iff_eq, beq_eq_false_iff_ne, ne_eq, Int.ofNat_lt, Int.not_lt, Int.not_le, Int.ofNat_le, Nat.not_lt, Nat.not_le, gt_iff_lt, ge_iff_le] at h5
            apply G.seq
            obtain ⟨q0, q1, q2, q3⟩ := hc1.b0 (by simp only; omega)
            simp only at q0 q1 q2 q3
            have q4 : c.toNat < rs.length := by omega
            have q5 : d.toNat < rs.length := by omega
            have tb : -999999 ≤ rs.getD c.toNat default ∧ rs.getD c.toNat default ≤ 999999 := hc1.rg q0 q1
            have tc : -999999 ≤ rs.getD d.toNat default ∧ rs.getD d.toNat default ≤ 999999 := hc1.rg q2 q3
            have hmul : -999998000001 ≤ rs.getD c.toNat default * rs.getD d.toNat default ∧ rs.getD c.toNat default * rs.getD d.toNat default ≤ 999998000001 := mul_tok tb tc
            have hw : IntKind.i64.wrap (rs.getD c.toNat default * rs.getD d.toNat default) = rs.getD c.toNat default * rs.getD d.toNat default := wrap64 (by omega) (by omega)
            refine G.dr mixed tab_ok ok_l2Value [0, 1, 2, 3, 4, 5, 6, 7, 8, 9, 10, 11, 12] (hk := ?_)
            refine G.fin tab_ok (hr := ?_)
            simp only [oneOrTup, valR, rg, if_true, if_false, Int.reduceEq, *]
          · try simp only [decide_eq_true_eq, decide_eq_false_iff_not, Bool.and_eq_true, Bool.and_eq_false_imp, Bool.or_eq_true, Bool.or_eq_false_iff, Bool.not_eq_true', Bool.not_eq_false', bne_iff_ne, beq_iff_eq, bne_eq_false_iff_eq, beq_eq_false_iff_ne, ne_eq, Int.ofNat_lt, Int.not_lt, Int.not_le, Int.ofNat_le, Nat.not_lt, Nat.not_le, gt_iff_lt, ge_iff_le] at h5
            apply G.seq
            refine G.rg tab_ok ok_l2Value (hk := ?_)
            refine G.iff (h1 := fun h6 => ?_) (h2 := fun h6 => ?_)
            · try simp only [decide_eq_true_eq, decide_eq_false_iff_not, Bool.and_eq_true, Bool.and_eq_false_imp, Bool.or_eq_true, Bool.or_eq_false_iff, Bool.not_eq_true', Bool.not_eq_false', bne_iff_ne, beq_iff_eq, bne_eq_false_iff_eq, beq_eq_false_iff_ne, ne_eq, Int.ofNat_lt, Int.not_lt, Int.not_le, Int.ofNat_le, Nat.not_lt, Nat.not_le, gt_iff_lt, ge_iff_le] at h6
              apply G.seq
              obtain ⟨q0, q1, q2, q3⟩ := hc1.b0 (by simp only; omega)
              simp only at q0 q1 q2 q3
              have q4 : c.toNat < rs.length := by omega
              have q5 : d.toNat < rs.length := by omega
              have tb : -999999 ≤ rs.getD c.toNat default ∧ rs.getD c.toNat default ≤ 999999 := hc1.rg q0 q1
              have tc : -999999 ≤ rs.getD d.toNat default ∧ rs.getD d.toNat default ≤ 999999 := hc1.rg q2 q3
              refine G.dr mixed tab_ok ok_l2Value [0, 1, 2, 3, 4, 5, 6, 7, 8, 9, 10, 11] (hk := ?_)
              refine G.fin tab_ok (hr := ?_)
              simp only [oneOrTup, valR, rg, if_true, if_false, Int.reduceEq, *]
            · try simp only [decide_eq_true_eq, decide_eq_false_iff_not, Bool.and_eq_true, Bool.and_eq_false_imp, Bool.or_eq_true, Bool.or_eq_false_iff, Bool.not_eq_true', Bool.not_eq_false', bne_iff_ne, beq_iff_eq, bne_eq_false_iff_eq, beq_eq_false_iff_ne, ne_eq, Int.ofNat_lt, Int.not_lt, Int.not_le, Int.ofNat_le, Nat.not_lt, Nat.not_le, gt_iff_lt, ge_iff_le] at h6
              apply G.skip
              apply G.blk
              apply G.seq
              refine G.rg tab_ok ok_l2Value (hk := ?_)
              refine G.fin tab_ok (hr := ?_)
              simp only [oneOrTup, valR, rg, if_true, if_false, Int.reduceEq, *]
def r_l2Value (xs0 : List A) (rr : A) : Prop := ∃ (a : Int) (b : Int) (c : Int) (d : Int) (rs : List Int) (token : Int), (RegOk (a, b, c, d) rs) ∧ xs0 = [.agg [.int .i64 a, .int .i64 b, .int .i64 c, .int .i64 d], .row false 1 (rs.map iv), .int .i64 token] ∧ rr = .int .i64 (valR (a, b, c, d) rs token)
noncomputable def q_l2Value : List A → Option A := kgr r_l2Value
theorem k_l2Value : KOk Try.prog (109, q_l2Value) := kgr_ok (enters_of Try.func109 rfl rfl) (by rintro xs0 rr ⟨a, b, c, d, rs, token, hc1, rfl, rfl⟩; exact l2Value_ac a b c d rs token hc1)
theorem e_l2Value : ∀ (a : Int) (b : Int) (c : Int) (d : Int) (rs : List Int) (token : Int), (RegOk (a, b, c, d) rs) → q_l2Value [.agg [.int .i64 a, .int .i64 b, .int .i64 c, .int .i64 d], .row false 1 (rs.map iv), .int .i64 token] = some (.int .i64 (valR (a, b, c, d) rs token)) := by
  intro a b c d rs token hc1
  refine kgr_eq (fun xs0 rr r2 h h2 => ?_) ⟨a, b, c, d, rs, token, hc1, rfl, rfl⟩
  obtain ⟨a1, b1, c1, d1, rs1, token1, _, e1, rfl⟩ := h; obtain ⟨a2, b2, c2, d2, rs2, token2, _, e2, rfl⟩ := h2
  rw [e1] at e2
  simp only [List.cons.injEq, A.int.injEq, A.bool.injEq, A.agg.injEq, A.row.injEq, A.fn.injEq, A.rp.injEq, insv_inj, iv_inj, true_and, and_true] at e2
  simp [e2]

end Go.Proofs.Ytmijpnghcggdfaa.Ab
