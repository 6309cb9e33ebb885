/- Walks of functions of the program: what each answers, for all arguments that meet its conditions. -/
import Derived.Test.YtimgfinlbhodhaaAbPerm2
import Derived.Test.YtimgfinlbhodhaaFwB
import Derived.Test.YtimgfinlbhodhaaFwGa
namespace Go.Proofs.Ytimgfinlbhodhaa.Ab
open Go
set_option linter.unusedVariables false
set_option linter.unusedSimpArgs false
set_option maxHeartbeats 4000000
theorem indexInt_ac (order : List Int) (x : Int) (hc1 : order.length < 17592186044416) : AC Try.prog 176 [.row false 1 (order.map iv), .int .i64 x] (.int .i64 (atI order x)) := by
  refine AC.of tab_ok Try.func176 rfl (Nat.le_of_ble_eq_true rfl) fun w0 S0 => ?_
  change G _ _ ⟨[(0, .row false 1 (order.map iv)), (1, .int .i64 x)], [], 19⟩
  apply G.seq
  refine G.rg tab_ok (kof_nil _) (hk := ?_)
  apply G.seq
  apply G.seq
  refine G.rg tab_ok (kof_nil _) (hk := ?_)
  apply G.block
  refine G.cn [0, 1, 7, 8] [] (h := ?_)
  refine G.loopX (fun j : Nat => ⟨[(0, .row false 1 (order.map iv)), (1, .int .i64 x), (7, .int .i64 order.length), (8, .int .i64 j)], [], 19⟩) (fun j => j ≤ order.length ∧ ∀ k < j, (fun y => y == x) (order.getD k default) = false) (fun j => order.length - j) (0) (⟨Nat.zero_le _, by omega⟩) (by simp) ?_
  intro j hj J hJ
  obtain ⟨hj, hall⟩ := hj
  have hw : IntKind.i64.wrap ((j : Int) + 1) = (j : Int) + 1 := wrap64 (by omega) (by omega)
  apply G.seq
  refine G.rg tab_ok (kof_nil _) (hk := ?_)
  apply G.seq
  refine G.iff (h1 := fun h1 => ?_) (h2 := fun h1 => ?_)
  · try simp only [decide_eq_true_eq, decide_eq_false_iff_not, Bool.and_eq_true, Bool.and_eq_false_imp, Bool.or_eq_true, Bool.or_eq_false_iff, Bool.not_eq_true', Bool.not_eq_false', bne_iff_ne, beq_iff_eq, bne_eq_false_iff_eq, beq_eq_false_iff_ne, ne_eq, Int.ofNat_lt, Int.not_lt, Int.not_le, Int.ofNat_le, Nat.not_lt, Nat.not_le, gt_iff_lt, ge_iff_le] at h1
    apply G.skip
    apply G.seq
    apply G.block
    apply G.seq
    refine G.rg tab_ok (kof_nil _) (hk := ?_)
    apply G.seq
    refine G.rg tab_ok (kof_nil _) (hk := ?_)
    refine G.fg [0, 1, 5, 7, 8, 16] (hk := ?_)
    refine G.iff (h1 := fun h2 => ?_) (h2 := fun h2 => ?_)
    · try simp only [decide_eq_true_eq, decide_eq_false_iff_not, Bool.and_eq_true, Bool.and_eq_false_imp, Bool.or_eq_true, Bool.or_eq_false_iff, Bool.not_eq_true', Bool.not_eq_false', bne_iff_ne, beq_iff_eq, bne_eq_false_iff_eq, beq_eq_false_iff_ne, ne_eq, Int.ofNat_lt, Int.not_lt, Int.not_le, Int.ofNat_le, Nat.not_lt, Nat.not_le, gt_iff_lt, ge_iff_le] at h2
      apply G.seq
      refine G.rg tab_ok (kof_nil _) (hk := ?_)
      refine G.fin tab_ok (hr := ?_)
      simp only [oneOrTup]
      congr 1
      exact (gidx_some (p := fun y => y == x) (by omega) hall (by simpa using h2.symm)).symm
    · try simp only [decide_eq_true_eq, decide_eq_false_iff_not, Bool.and_eq_true, Bool.and_eq_false_imp, Bool.or_eq_true, Bool.or_eq_false_iff, Bool.not_eq_true', Bool.not_eq_false', bne_iff_ne, beq_iff_eq, bne_eq_false_iff_eq, beq_eq_false_iff_ne, ne_eq, Int.ofNat_lt, Int.not_lt, Int.not_le, Int.ofNat_le, Nat.not_lt, Nat.not_le, gt_iff_lt, ge_iff_le] at h2
      apply G.skip
      apply G.blk
      refine G.rg tab_ok (kof_nil _) (hk := ?_)
      refine G.cn [0, 1, 7, 8] [] (h := ?_)
      exact G.upto (hJ (j + 1) ⟨by omega, gupto (p := fun y => y == x) hall (by simpa using fun e => h2 e.symm)⟩ (by omega)) (by simp)
  · try simp only [decide_eq_true_eq, decide_eq_false_iff_not, Bool.and_eq_true, Bool.and_eq_false_imp, Bool.or_eq_true, Bool.or_eq_false_iff, Bool.not_eq_true', Bool.not_eq_false', bne_iff_ne, beq_iff_eq, bne_eq_false_iff_eq, beq_eq_false_iff_ne, ne_eq, Int.ofNat_lt, Int.not_lt, Int.not_le, Int.ofNat_le, Nat.not_lt, Nat.not_le, gt_iff_lt, ge_iff_le] at h1
    refine G.exit rfl ?_
    apply G.seq
    refine G.rg tab_ok (kof_nil _) (hk := ?_)
    refine G.fin tab_ok (hr := ?_)
    simp only [oneOrTup]
    congr 1
    exact (gidx_none (p := fun y => y == x) (fun k hk => hall k (by omega))).symm
def r_indexInt (xs0 : List A) (rr : A) : Prop := ∃ (order : List Int) (x : Int), (order.length < 17592186044416) ∧ xs0 = [.row false 1 (order.map iv), .int .i64 x] ∧ rr = .int .i64 (atI order x)
noncomputable def q_indexInt : List A → Option A := kgr r_indexInt
theorem k_indexInt : KOk Try.prog (176, q_indexInt) := kgr_ok (enters_of Try.func176 rfl rfl) (by rintro xs0 rr ⟨order, x, hc1, rfl, rfl⟩; exact indexInt_ac order x hc1)
theorem e_indexInt : ∀ (order : List Int) (x : Int), (order.length < 17592186044416) → q_indexInt [.row false 1 (order.map iv), .int .i64 x] = some (.int .i64 (atI order x)) := by
  intro order x hc1
  refine kgr_eq (fun xs0 rr r2 h h2 => ?_) ⟨order, x, hc1, rfl, rfl⟩
  obtain ⟨order1, x1, _, e1, rfl⟩ := h; obtain ⟨order2, x2, _, e2, rfl⟩ := h2
  rw [e1] at e2
  simp only [List.cons.injEq, A.int.injEq, A.bool.injEq, A.agg.injEq, A.row.injEq, A.fn.injEq, A.rp.injEq, insv_inj, iv_inj, true_and, and_true] at e2
  simp [e2]
theorem ok_containsInt : Kn.ok Try.prog (kof [(176, q_indexInt)]) := kof_cons k_indexInt ((kof_nil _))
theorem containsInt_ac (order : List Int) (x : Int) (hc1 : order.length < 17592186044416) : AC Try.prog 119 [.row false 1 (order.map iv), .int .i64 x] (.bool (hasI order x)) := by
  have e_indexInt := e_indexInt
  refine AC.of tab_ok Try.func119 rfl (Nat.le_of_ble_eq_true rfl) fun w0 S0 => ?_
  change G _ _ ⟨[(0, .row false 1 (order.map iv)), (1, .int .i64 x)], [], 9⟩
  apply G.seq
  refine G.rg tab_ok ok_containsInt (hk := ?_)
  apply G.seq
  refine G.rg tab_ok ok_containsInt (hk := ?_)
  refine G.fin tab_ok (hr := ?_)
  simp only [oneOrTup]
  congr 1
  exact at_ge x
def r_containsInt (xs0 : List A) (rr : A) : Prop := ∃ (order : List Int) (x : Int), (order.length < 17592186044416) ∧ xs0 = [.row false 1 (order.map iv), .int .i64 x] ∧ rr = .bool (hasI order x)
noncomputable def q_containsInt : List A → Option A := kgr r_containsInt
theorem k_containsInt : KOk Try.prog (119, q_containsInt) := kgr_ok (enters_of Try.func119 rfl rfl) (by rintro xs0 rr ⟨order, x, hc1, rfl, rfl⟩; exact containsInt_ac order x hc1)
theorem e_containsInt : ∀ (order : List Int) (x : Int), (order.length < 17592186044416) → q_containsInt [.row false 1 (order.map iv), .int .i64 x] = some (.bool (hasI order x)) := by
  intro order x hc1
  refine kgr_eq (fun xs0 rr r2 h h2 => ?_) ⟨order, x, hc1, rfl, rfl⟩
  obtain ⟨order1, x1, _, e1, rfl⟩ := h; obtain ⟨order2, x2, _, e2, rfl⟩ := h2
  rw [e1] at e2
  simp only [List.cons.injEq, A.int.injEq, A.bool.injEq, A.agg.injEq, A.row.injEq, A.fn.injEq, A.rp.injEq, insv_inj, iv_inj, true_and, and_true] at e2
  simp [e2]
end Go.Proofs.Ytimgfinlbhodhaa.Ab
