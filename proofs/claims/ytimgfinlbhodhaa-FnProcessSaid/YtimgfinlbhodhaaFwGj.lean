/- Walks of functions of the program: what each answers, for all arguments that meet its conditions; and the plain definitions that tell it. -/
import Derived.Test.YtimgfinlbhodhaaFwGd
import Derived.Test.YtimgfinlbhodhaaFwB
import Derived.Test.YtimgfinlbhodhaaFwGg
import Derived.Test.YtimgfinlbhodhaaFwGe
import Derived.Test.YtimgfinlbhodhaaFwGc
import Derived.Test.YtimgfinlbhodhaaFwGf
import Derived.Test.YtimgfinlbhodhaaFwGa
namespace Go.Proofs.Ytimgfinlbhodhaa.Ab
open Go
set_option linter.unusedVariables false
set_option linter.unusedSimpArgs false
set_option maxHeartbeats 4000000
theorem ok_l4Same : Kn.ok Try.prog (kof [(76, q_l1Begins)]) := kof_cons k_l1Begins ((kof_nil _))
theorem l4Same_ac (gs : List (List Int)) (hs : List (List Int)) (hc1 : gs.length < 5864062014805) (hc2 : LW gs) (hc3 : hs.length < 5864062014805) (hc4 : LW hs) : AC Try.prog 91 [.row false 1 (gs.map ivL), .row false 1 (hs.map ivL)] (.bool (decide (gs = hs))) := by
  have e_l1Begins := e_l1Begins
  have hivl := ivL_eq
  refine AC.of tab_ok Try.func91 rfl (Nat.le_of_ble_eq_true rfl) fun w0 S0 => ?_
  change G _ _ ⟨[(0, .row false 1 (gs.map ivL)), (1, .row false 1 (hs.map ivL))], [], 37⟩
  apply G.seq
  refine G.rg tab_ok ok_l4Same (hk := ?_)
  apply G.seq
  apply G.seq
  refine G.rg tab_ok ok_l4Same (hk := ?_)
  refine G.iff (h1 := fun h1 => ?_) (h2 := fun h1 => ?_)
  · try simp only [zz, bne_iff_ne, beq_iff_eq, bne_eq_false_iff_eq, beq_eq_false_iff_ne, ne_eq, gt_iff_lt, ge_iff_le] at h1
    apply G.seq
    refine G.rg tab_ok ok_l4Same (hk := ?_)
    refine G.fin tab_ok (hr := ?_)
    simp only [oneOrTup]
    congr 1
    symm
    rw [decide_eq_false_iff_not]
    intro e
    subst e
    exact h1 rfl
  · try simp only [zz, bne_iff_ne, beq_iff_eq, bne_eq_false_iff_eq, beq_eq_false_iff_ne, ne_eq, gt_iff_lt, ge_iff_le] at h1
    apply G.skip
    apply G.seq
    apply G.seq
    have hle1 : gs.length ≤ hs.length := by omega
    have hle2 : hs.length ≤ gs.length := by omega
    clear h1
    refine G.rg tab_ok ok_l4Same (hk := ?_)
    apply G.block
    refine G.cn [1, 12, 13, 14] [] (h := ?_)
    refine G.loopX (fun j : Nat => ⟨[(1, .row false 1 (hs.map ivL)), (12, .row false 1 (gs.map ivL)), (13, .int .i64 gs.length), (14, .int .i64 j)], [], 37⟩) (fun j => j ≤ gs.length ∧ ∀ k < j, gs.getD k default = hs.getD k default) (fun j => gs.length - j) (0) (⟨Nat.zero_le _, by omega⟩) (by simp) ?_
    intro j hj J hJ
    obtain ⟨hj, hall⟩ := hj
    have hw : IntKind.i64.wrap ((j : Int) + 1) = (j : Int) + 1 := wrap64 (by omega) (by omega)
    apply G.seq
    refine G.rg tab_ok ok_l4Same (hk := ?_)
    apply G.seq
    refine G.iff (h1 := fun h2 => ?_) (h2 := fun h2 => ?_)
    · try simp only [zz, bne_iff_ne, beq_iff_eq, bne_eq_false_iff_eq, beq_eq_false_iff_ne, ne_eq, gt_iff_lt, ge_iff_le] at h2
      apply G.skip
      apply G.seq
      apply G.block
      apply G.seq
      refine G.rg tab_ok ok_l4Same (hk := ?_)
      apply G.seq
      have hjh : j < hs.length := by omega
      have hlg : (gs.getD j default).length < 17592186044416 := hc2 _ (getD_mem0 h2)
      have hlh : (hs.getD j default).length < 17592186044416 := hc4 _ (getD_mem0 hjh)
      refine G.rg tab_ok ok_l4Same (hk := ?_)
      refine G.fg [1, 12, 13, 14, 35] (hk := ?_)
      refine G.iff (h1 := fun h3 => ?_) (h2 := fun h3 => ?_)
      · try simp only [zz, bne_iff_ne, beq_iff_eq, bne_eq_false_iff_eq, beq_eq_false_iff_ne, ne_eq, gt_iff_lt, ge_iff_le] at h3
        apply G.seq
        refine G.rg tab_ok ok_l4Same (hk := ?_)
        refine G.fin tab_ok (hr := ?_)
        simp only [oneOrTup]
        congr 1
        symm
        rw [decide_eq_false_iff_not]
        intro e
        exact same_no h3 (by rw [e])
      · try simp only [zz, bne_iff_ne, beq_iff_eq, bne_eq_false_iff_eq, beq_eq_false_iff_ne, ne_eq, gt_iff_lt, ge_iff_le] at h3
        apply G.skip
        apply G.blk
        refine G.rg tab_ok ok_l4Same (hk := ?_)
        refine G.cn [1, 12, 13, 14] [] (h := ?_)
        exact G.upto (hJ (j + 1) ⟨by omega, up_eq hall (same_yes h3)⟩ (by omega)) (by simp)
    · try simp only [zz, bne_iff_ne, beq_iff_eq, bne_eq_false_iff_eq, beq_eq_false_iff_ne, ne_eq, gt_iff_lt, ge_iff_le] at h2
      refine G.exit rfl ?_
      apply G.seq
      refine G.rg tab_ok ok_l4Same (hk := ?_)
      refine G.fin tab_ok (hr := ?_)
      simp only [oneOrTup]
      congr 1
      symm
      rw [decide_eq_true_eq]
      exact geq_all (by omega) (fun k hk => hall k (by omega))
def r_l4Same (xs0 : List A) (rr : A) : Prop := ∃ (gs : List (List Int)) (hs : List (List Int)), (gs.length < 5864062014805) ∧ (LW gs) ∧ (hs.length < 5864062014805) ∧ (LW hs) ∧ xs0 = [.row false 1 (gs.map ivL), .row false 1 (hs.map ivL)] ∧ rr = .bool (decide (gs = hs))
noncomputable def q_l4Same : List A → Option A := kgr r_l4Same
theorem k_l4Same : KOk Try.prog (91, q_l4Same) := kgr_ok (enters_of Try.func91 rfl rfl) (by rintro xs0 rr ⟨gs, hs, hc1, hc2, hc3, hc4, rfl, rfl⟩; exact l4Same_ac gs hs hc1 hc2 hc3 hc4)
theorem e_l4Same : ∀ (gs : List (List Int)) (hs : List (List Int)), (gs.length < 5864062014805) → (LW gs) → (hs.length < 5864062014805) → (LW hs) → q_l4Same [.row false 1 (gs.map ivL), .row false 1 (hs.map ivL)] = some (.bool (decide (gs = hs))) := by
  intro gs hs hc1 hc2 hc3 hc4
  refine kgr_eq (fun xs0 rr r2 h h2 => ?_) ⟨gs, hs, hc1, hc2, hc3, hc4, rfl, rfl⟩
  obtain ⟨gs1, hs1, _, _, _, _, e1, rfl⟩ := h; obtain ⟨gs2, hs2, _, _, _, _, e2, rfl⟩ := h2
  rw [e1] at e2
  simp only [List.cons.injEq, A.int.injEq, A.agg.injEq, A.row.injEq, A.fn.injEq, ivL_inj, true_and, and_true] at e2
  obtain ⟨e3, e4⟩ := e2
  subst e3 e4
  rfl
end Go.Proofs.Ytimgfinlbhodhaa.Ab
