/- Walks of functions of the program: what each answers, for all arguments that meet its conditions. -/
import Derived.Test.YtimgfinlbhodhaaFwGg
namespace Go.Proofs.Ytimgfinlbhodhaa.Ab
open Go
set_option linter.unusedVariables false
set_option linter.unusedSimpArgs false
set_option maxHeartbeats 4000000
theorem ok_eqFuncP : Kn.ok Try.prog (kof [(136, q_implIsPrefix)]) := kof_cons k_implIsPrefix ((kof_nil _))
theorem eqFuncP_ac (gs : List (List Int)) (hs : List (List Int)) (hc1 : gs.length < 5864062014805) (hc2 : LW gs) (hc3 : hs.length < 5864062014805) (hc4 : LW hs) : AC Try.prog 135 [.row false 1 (gs.map ivL), .row false 1 (hs.map ivL), .fn 136 []] (.bool (decide (gs.length = hs.length) && allPfx pfxB gs hs)) := by
  have e_implIsPrefix := e_implIsPrefix
  have hivl := ivL_eq
  refine AC.of tab_ok Try.func135 rfl (Nat.le_of_ble_eq_true rfl) fun w0 S0 => ?_
  change G _ _ ⟨[(0, .row false 1 (gs.map ivL)), (1, .row false 1 (hs.map ivL)), (2, .fn 136 [])], [], 32⟩
  apply G.seq
  refine G.rg tab_ok ok_eqFuncP (hk := ?_)
  apply G.seq
  apply G.seq
  refine G.rg tab_ok ok_eqFuncP (hk := ?_)
  refine G.iff (h1 := fun h1 => ?_) (h2 := fun h1 => ?_)
  · try simp only [zz, bne_iff_ne, beq_iff_eq, bne_eq_false_iff_eq, beq_eq_false_iff_ne, ne_eq, gt_iff_lt, ge_iff_le] at h1
    apply G.seq
    refine G.rg tab_ok ok_eqFuncP (hk := ?_)
    refine G.fin tab_ok (hr := ?_)
    simp only [oneOrTup]
    congr 1
    rw [decide_eq_false (by omega), Bool.false_and]
  · try simp only [zz, bne_iff_ne, beq_iff_eq, bne_eq_false_iff_eq, beq_eq_false_iff_ne, ne_eq, gt_iff_lt, ge_iff_le] at h1
    apply G.skip
    apply G.seq
    apply G.seq
    have hle1 : gs.length ≤ hs.length := by omega
    have hle2 : hs.length ≤ gs.length := by omega
    clear h1
    refine G.rg tab_ok ok_eqFuncP (hk := ?_)
    apply G.block
    refine G.cn [1, 2, 15, 16, 17] [] (h := ?_)
    refine G.loopX (fun j : Nat => ⟨[(1, .row false 1 (hs.map ivL)), (2, .fn 136 []), (15, .row false 1 (gs.map ivL)), (16, .int .i64 gs.length), (17, .int .i64 j)], [], 32⟩) (fun j => j ≤ gs.length ∧ ∀ k < j, pfxB (gs.getD k default) (hs.getD k default) = true) (fun j => gs.length - j) (0) (⟨Nat.zero_le _, by omega⟩) (by simp) ?_
    intro j hj J hJ
    obtain ⟨hj, hall⟩ := hj
    have hw : IntKind.i64.wrap ((j : Int) + 1) = (j : Int) + 1 := wrap64 (by omega) (by omega)
    apply G.seq
    refine G.rg tab_ok ok_eqFuncP (hk := ?_)
    apply G.seq
    refine G.iff (h1 := fun h2 => ?_) (h2 := fun h2 => ?_)
    · try simp only [zz, bne_iff_ne, beq_iff_eq, bne_eq_false_iff_eq, beq_eq_false_iff_ne, ne_eq, gt_iff_lt, ge_iff_le] at h2
      apply G.skip
      apply G.seq
      apply G.block
      apply G.seq
      refine G.rg tab_ok ok_eqFuncP (hk := ?_)
      apply G.seq
      have hjh : j < hs.length := by omega
      have hlg : (gs.getD j default).length < 17592186044416 := hc2 _ (getD_mem0 h2)
      have hlh : (hs.getD j default).length < 17592186044416 := hc4 _ (getD_mem0 hjh)
      refine G.rg tab_ok ok_eqFuncP (hk := ?_)
      apply G.seq
      refine G.rg tab_ok ok_eqFuncP (hk := ?_)
      refine G.fg [1, 2, 15, 16, 17, 30] (hk := ?_)
      refine G.iff (h1 := fun h3 => ?_) (h2 := fun h3 => ?_)
      · try simp only [zz, bne_iff_ne, beq_iff_eq, bne_eq_false_iff_eq, beq_eq_false_iff_ne, ne_eq, gt_iff_lt, ge_iff_le] at h3
        apply G.seq
        refine G.rg tab_ok ok_eqFuncP (hk := ?_)
        refine G.fin tab_ok (hr := ?_)
        simp only [oneOrTup]
        congr 1
        rw [allPfx_no (p := pfxB) h2 h3, Bool.and_false]
      · try simp only [zz, bne_iff_ne, beq_iff_eq, bne_eq_false_iff_eq, beq_eq_false_iff_ne, ne_eq, gt_iff_lt, ge_iff_le] at h3
        apply G.skip
        apply G.blk
        refine G.rg tab_ok ok_eqFuncP (hk := ?_)
        refine G.cn [1, 2, 15, 16, 17] [] (h := ?_)
        exact G.upto (hJ (j + 1) ⟨by omega, up_step hall h3⟩ (by omega)) (by simp)
    · try simp only [zz, bne_iff_ne, beq_iff_eq, bne_eq_false_iff_eq, beq_eq_false_iff_ne, ne_eq, gt_iff_lt, ge_iff_le] at h2
      refine G.exit rfl ?_
      apply G.seq
      refine G.rg tab_ok ok_eqFuncP (hk := ?_)
      refine G.fin tab_ok (hr := ?_)
      simp only [oneOrTup]
      congr 1
      rw [allPfx_yes (p := pfxB) (fun k hk => hall k (by omega)), decide_eq_true (by omega : gs.length = hs.length)]
      rfl
def r_eqFuncP (xs0 : List A) (rr : A) : Prop := ∃ (gs : List (List Int)) (hs : List (List Int)), (gs.length < 5864062014805) ∧ (LW gs) ∧ (hs.length < 5864062014805) ∧ (LW hs) ∧ xs0 = [.row false 1 (gs.map ivL), .row false 1 (hs.map ivL), .fn 136 []] ∧ rr = .bool (decide (gs.length = hs.length) && allPfx pfxB gs hs)
noncomputable def q_eqFuncP : List A → Option A := kgr r_eqFuncP
theorem k_eqFuncP : KOk Try.prog (135, q_eqFuncP) := kgr_ok (enters_of Try.func135 rfl rfl) (by rintro xs0 rr ⟨gs, hs, hc1, hc2, hc3, hc4, rfl, rfl⟩; exact eqFuncP_ac gs hs hc1 hc2 hc3 hc4)
theorem e_eqFuncP : ∀ (gs : List (List Int)) (hs : List (List Int)), (gs.length < 5864062014805) → (LW gs) → (hs.length < 5864062014805) → (LW hs) → q_eqFuncP [.row false 1 (gs.map ivL), .row false 1 (hs.map ivL), .fn 136 []] = some (.bool (decide (gs.length = hs.length) && allPfx pfxB gs hs)) := by
  intro gs hs hc1 hc2 hc3 hc4
  refine kgr_eq (fun xs0 rr r2 h h2 => ?_) ⟨gs, hs, hc1, hc2, hc3, hc4, rfl, rfl⟩
  obtain ⟨gs1, hs1, _, _, _, _, e1, rfl⟩ := h; obtain ⟨gs2, hs2, _, _, _, _, e2, rfl⟩ := h2
  rw [e1] at e2
  simp only [List.cons.injEq, A.int.injEq, A.agg.injEq, A.row.injEq, A.fn.injEq, ivL_inj, true_and, and_true] at e2
  obtain ⟨e3, e4⟩ := e2
  subst e3 e4
  rfl
theorem ok_implAreBelow : Kn.ok Try.prog (kof [(124, q_implAreHistories), (135, q_eqFuncP)]) := kof_cons k_implAreHistories (kof_cons k_eqFuncP ((kof_nil _)))
theorem implAreBelow_ac (ps : List PG) (ks : List LK) (gs : List (List Int)) (hs : List (List Int)) (hc1 : NW ps) (hc2 : KW ks) (hc3 : ps.length < 3518437208781) (hc4 : ks.length < 2513169434844) (hc5 : gs.length < 5864062014805) (hc6 : LW gs) (hc7 : hs.length < 5864062014805) (hc8 : LW hs) : AC Try.prog 61 [.agg [.row false 3 (ps.map pv), .row false 5 (ks.map kv)], .row false 1 (gs.map ivL), .row false 1 (hs.map ivL)] (.bool (belOk ps ks gs hs)) := by
  have e_implAreHistories := e_implAreHistories
  have e_eqFuncP := e_eqFuncP
  have hivl := ivL_eq
  refine AC.of tab_ok Try.func61 rfl (Nat.le_of_ble_eq_true rfl) fun w0 S0 => ?_
  change G _ _ ⟨[(0, .agg [.row false 3 (ps.map pv), .row false 5 (ks.map kv)]), (1, .row false 1 (gs.map ivL)), (2, .row false 1 (hs.map ivL))], [], 20⟩
  apply G.seq
  refine G.rg tab_ok ok_implAreBelow (hk := ?_)
  apply G.seq
  refine G.rg tab_ok ok_implAreBelow (hk := ?_)
  refine G.fin tab_ok (hr := ?_)
  simp only [oneOrTup]
  congr 1
  exact belOk_impl
def r_implAreBelow (xs0 : List A) (rr : A) : Prop := ∃ (ps : List PG) (ks : List LK) (gs : List (List Int)) (hs : List (List Int)), (NW ps) ∧ (KW ks) ∧ (ps.length < 3518437208781) ∧ (ks.length < 2513169434844) ∧ (gs.length < 5864062014805) ∧ (LW gs) ∧ (hs.length < 5864062014805) ∧ (LW hs) ∧ xs0 = [.agg [.row false 3 (ps.map pv), .row false 5 (ks.map kv)], .row false 1 (gs.map ivL), .row false 1 (hs.map ivL)] ∧ rr = .bool (belOk ps ks gs hs)
noncomputable def q_implAreBelow : List A → Option A := kgr r_implAreBelow
theorem k_implAreBelow : KOk Try.prog (61, q_implAreBelow) := kgr_ok (enters_of Try.func61 rfl rfl) (by rintro xs0 rr ⟨ps, ks, gs, hs, hc1, hc2, hc3, hc4, hc5, hc6, hc7, hc8, rfl, rfl⟩; exact implAreBelow_ac ps ks gs hs hc1 hc2 hc3 hc4 hc5 hc6 hc7 hc8)
theorem e_implAreBelow : ∀ (ps : List PG) (ks : List LK) (gs : List (List Int)) (hs : List (List Int)), (NW ps) → (KW ks) → (ps.length < 3518437208781) → (ks.length < 2513169434844) → (gs.length < 5864062014805) → (LW gs) → (hs.length < 5864062014805) → (LW hs) → q_implAreBelow [.agg [.row false 3 (ps.map pv), .row false 5 (ks.map kv)], .row false 1 (gs.map ivL), .row false 1 (hs.map ivL)] = some (.bool (belOk ps ks gs hs)) := by
  intro ps ks gs hs hc1 hc2 hc3 hc4 hc5 hc6 hc7 hc8
  refine kgr_eq (fun xs0 rr r2 h h2 => ?_) ⟨ps, ks, gs, hs, hc1, hc2, hc3, hc4, hc5, hc6, hc7, hc8, rfl, rfl⟩
  obtain ⟨ps1, ks1, gs1, hs1, _, _, _, _, _, _, _, _, e1, rfl⟩ := h; obtain ⟨ps2, ks2, gs2, hs2, _, _, _, _, _, _, _, _, e2, rfl⟩ := h2
  rw [e1] at e2
  simp only [List.cons.injEq, A.int.injEq, A.agg.injEq, A.row.injEq, pv_inj, kv_inj, ivL_inj, true_and, and_true] at e2
  obtain ⟨⟨e3, e4⟩, e5, e6⟩ := e2
  subst e3 e4 e5 e6
  rfl
-- not in this seat: specAreBelow
end Go.Proofs.Ytimgfinlbhodhaa.Ab
