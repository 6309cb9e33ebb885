/- Walks of functions of the program: what each answers, for all arguments that meet its conditions; and the plain definitions that tell it. -/
import Derived.Test.YtimgfinlbhodhaaFwGd
import Derived.Test.YtimgfinlbhodhaaFwGe
import Derived.Test.YtimgfinlbhodhaaFwGa
import Derived.Test.YtimgfinlbhodhaaFwGc
import Derived.Test.YtimgfinlbhodhaaFwGf
namespace Go.Proofs.Ytimgfinlbhodhaa.Ab
open Go
set_option linter.unusedVariables false
set_option linter.unusedSimpArgs false
set_option maxHeartbeats 4000000
theorem l1Begins_ac (a : List Int) (b : List Int) (hc1 : a.length < 17592186044416) (hc2 : b.length < 17592186044416) : AC Try.prog 76 [.row false 1 (a.map iv), .row false 1 (b.map iv)] (.bool (begB a b)) := by
  refine AC.of tab_ok Try.func76 rfl (Nat.le_of_ble_eq_true rfl) fun w0 S0 => ?_
  change G _ _ ⟨[(0, .row false 1 (a.map iv)), (1, .row false 1 (b.map iv))], [], 26⟩
  apply G.seq
  refine G.rg tab_ok (kof_nil _) (hk := ?_)
  apply G.seq
  apply G.seq
  refine G.rg tab_ok (kof_nil _) (hk := ?_)
  refine G.iff (h1 := fun h1 => ?_) (h2 := fun h1 => ?_)
  · try simp only [zz, bne_iff_ne, beq_iff_eq, bne_eq_false_iff_eq, beq_eq_false_iff_ne, ne_eq, gt_iff_lt, ge_iff_le] at h1
    apply G.seq
    refine G.rg tab_ok (kof_nil _) (hk := ?_)
    refine G.fin tab_ok (hr := ?_)
    simp only [oneOrTup]
    congr 1
    exact (begB_long (by omega)).symm
  · try simp only [zz, bne_iff_ne, beq_iff_eq, bne_eq_false_iff_eq, beq_eq_false_iff_ne, ne_eq, gt_iff_lt, ge_iff_le] at h1
    apply G.skip
    apply G.seq
    apply G.seq
    refine G.rg tab_ok (kof_nil _) (hk := ?_)
    apply G.block
    have hlab : a.length ≤ b.length := by omega
    refine G.cn [1, 12, 13, 14] [] (h := ?_)
    refine G.loopX (fun j : Nat => ⟨[(1, .row false 1 (b.map iv)), (12, .row false 1 (a.map iv)), (13, .int .i64 a.length), (14, .int .i64 j)], [], 26⟩) (fun j => j ≤ a.length ∧ ∀ k < j, b.getD k default = a.getD k default) (fun j => a.length - j) (0) (⟨Nat.zero_le _, by omega⟩) (by simp) ?_
    intro j hj J hJ
    obtain ⟨hj, hall⟩ := hj
    have hw : IntKind.i64.wrap ((j : Int) + 1) = (j : Int) + 1 := wrap64 (by omega) (by omega)
    apply G.seq
    refine G.rg tab_ok (kof_nil _) (hk := ?_)
    apply G.seq
    refine G.iff (h1 := fun h2 => ?_) (h2 := fun h2 => ?_)
    · try simp only [zz, bne_iff_ne, beq_iff_eq, bne_eq_false_iff_eq, beq_eq_false_iff_ne, ne_eq, gt_iff_lt, ge_iff_le] at h2
      apply G.skip
      apply G.seq
      apply G.block
      apply G.seq
      refine G.rg tab_ok (kof_nil _) (hk := ?_)
      apply G.seq
      have hjb : j < b.length := by omega
      refine G.rg tab_ok (kof_nil _) (hk := ?_)
      refine G.fg [1, 12, 13, 14, 24] (hk := ?_)
      refine G.iff (h1 := fun h3 => ?_) (h2 := fun h3 => ?_)
      · try simp only [zz, bne_iff_ne, beq_iff_eq, bne_eq_false_iff_eq, beq_eq_false_iff_ne, ne_eq, gt_iff_lt, ge_iff_le] at h3
        apply G.seq
        refine G.rg tab_ok (kof_nil _) (hk := ?_)
        refine G.fin tab_ok (hr := ?_)
        simp only [oneOrTup]
        congr 1
        exact (begB_no (by omega) h3).symm
      · try simp only [zz, bne_iff_ne, beq_iff_eq, bne_eq_false_iff_eq, beq_eq_false_iff_ne, ne_eq, gt_iff_lt, ge_iff_le] at h3
        apply G.skip
        apply G.blk
        refine G.rg tab_ok (kof_nil _) (hk := ?_)
        refine G.cn [1, 12, 13, 14] [] (h := ?_)
        exact G.upto (hJ (j + 1) ⟨by omega, up_step hall h3⟩ (by omega)) (by simp)
    · try simp only [zz, bne_iff_ne, beq_iff_eq, bne_eq_false_iff_eq, beq_eq_false_iff_ne, ne_eq, gt_iff_lt, ge_iff_le] at h2
      refine G.exit rfl ?_
      apply G.seq
      refine G.rg tab_ok (kof_nil _) (hk := ?_)
      refine G.fin tab_ok (hr := ?_)
      simp only [oneOrTup]
      congr 1
      exact (begB_yes hlab (fun k hk => hall k (by omega))).symm
def r_l1Begins (xs0 : List A) (rr : A) : Prop := ∃ (a : List Int) (b : List Int), (a.length < 17592186044416) ∧ (b.length < 17592186044416) ∧ xs0 = [.row false 1 (a.map iv), .row false 1 (b.map iv)] ∧ rr = .bool (begB a b)
noncomputable def q_l1Begins : List A → Option A := kgr r_l1Begins
theorem k_l1Begins : KOk Try.prog (76, q_l1Begins) := kgr_ok (enters_of Try.func76 rfl rfl) (by rintro xs0 rr ⟨a, b, hc1, hc2, rfl, rfl⟩; exact l1Begins_ac a b hc1 hc2)
theorem e_l1Begins : ∀ (a : List Int) (b : List Int), (a.length < 17592186044416) → (b.length < 17592186044416) → q_l1Begins [.row false 1 (a.map iv), .row false 1 (b.map iv)] = some (.bool (begB a b)) := by
  intro a b hc1 hc2
  refine kgr_eq (fun xs0 rr r2 h h2 => ?_) ⟨a, b, hc1, hc2, rfl, rfl⟩
  obtain ⟨a1, b1, _, _, e1, rfl⟩ := h; obtain ⟨a2, b2, _, _, e2, rfl⟩ := h2
  rw [e1] at e2
  simp only [List.cons.injEq, A.int.injEq, A.bool.injEq, A.agg.injEq, A.row.injEq, A.fn.injEq, A.rp.injEq, insv_inj, iv_inj, true_and, and_true] at e2
  simp [e2]
end Go.Proofs.Ytimgfinlbhodhaa.Ab

namespace Go.Proofs.Ytimgfinlbhodhaa.Ab
open Go
set_option linter.unusedVariables false
set_option linter.unusedSimpArgs false
set_option maxHeartbeats 4000000
end Go.Proofs.Ytimgfinlbhodhaa.Ab

namespace Go.Proofs.Ytimgfinlbhodhaa.Ab
open Go
set_option linter.unusedVariables false
set_option linter.unusedSimpArgs false
set_option maxHeartbeats 4000000
end Go.Proofs.Ytimgfinlbhodhaa.Ab

namespace Go.Proofs.Ytimgfinlbhodhaa.Ab
open Go
set_option linter.unusedVariables false
set_option linter.unusedSimpArgs false
set_option maxHeartbeats 4000000
end Go.Proofs.Ytimgfinlbhodhaa.Ab
