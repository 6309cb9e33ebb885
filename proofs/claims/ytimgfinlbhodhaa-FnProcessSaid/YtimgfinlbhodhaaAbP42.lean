/- Walks of functions of the program: what each answers, for all arguments that meet its conditions. -/
import Derived.Test.YtimgfinlbhodhaaFwGd
import Derived.Test.YtimgfinlbhodhaaFwGc
namespace Go.Proofs.Ytimgfinlbhodhaa.Ab
open Go
set_option linter.unusedVariables false
set_option linter.unusedSimpArgs false
set_option maxHeartbeats 4000000
theorem ok_runProc1 : Kn.ok Try.prog (kof [(97, q_implIsStream)]) := kof_cons k_implIsStream ((kof_nil _))
theorem runProc1_ac (r : List Int) (hc1 : r.length < 17592186044416) : AC Try.prog 96 [.row false 1 (r.map iv)] (.bool (!(strOk r))) := by
  have e_implIsStream := e_implIsStream
  refine AC.of tab_ok Try.func96 rfl (Nat.le_of_ble_eq_true rfl) fun w0 S0 => ?_
  change G _ _ ⟨[(0, .row false 1 (r.map iv))], [], 6⟩
  apply G.seq
  refine G.rg tab_ok ok_runProc1 (hk := ?_)
  apply G.seq
  refine G.rg tab_ok ok_runProc1 (hk := ?_)
  refine G.fin tab_ok (hr := ?_)
  rfl
def r_runProc1 (xs0 : List A) (rr : A) : Prop := ∃ (r : List Int), (r.length < 17592186044416) ∧ xs0 = [.row false 1 (r.map iv)] ∧ rr = .bool (!(strOk r))
noncomputable def q_runProc1 : List A → Option A := kgr r_runProc1
theorem k_runProc1 : KOk Try.prog (96, q_runProc1) := kgr_ok (enters_of Try.func96 rfl rfl) (by rintro xs0 rr ⟨r, hc1, rfl, rfl⟩; exact runProc1_ac r hc1)
theorem e_runProc1 : ∀ (r : List Int), (r.length < 17592186044416) → q_runProc1 [.row false 1 (r.map iv)] = some (.bool (!(strOk r))) := by
  intro r hc1
  refine kgr_eq (fun xs0 rr r2 h h2 => ?_) ⟨r, hc1, rfl, rfl⟩
  obtain ⟨r1, _, e1, rfl⟩ := h; obtain ⟨r2, _, e2, rfl⟩ := h2
  rw [e1] at e2
  simp only [List.cons.injEq, A.int.injEq, A.bool.injEq, A.agg.injEq, A.row.injEq, A.fn.injEq, A.rp.injEq, insv_inj, iv_inj, true_and, and_true] at e2
  simp [e2]
theorem ok_indexStr : Kn.ok Try.prog (kof [(96, q_runProc1)]) := kof_cons k_runProc1 ((kof_nil _))
theorem indexStr_ac (ins : List (List Int)) (hc1 : ins.length < 5864062014805) (hc2 : LW ins) : AC Try.prog 161 [.row false 1 (ins.map ivL), .fn 96 []] (.int .i64 (gidx (fun x => !(strOk x)) ins)) := by
  have e_runProc1 := e_runProc1
  have hivl := ivL_eq
  refine AC.of tab_ok Try.func161 rfl (Nat.le_of_ble_eq_true rfl) fun w0 S0 => ?_
  change G _ _ ⟨[(0, .row false 1 (ins.map ivL)), (1, .fn 96 [])], [], 19⟩
  apply G.seq
  refine G.rg tab_ok ok_indexStr (hk := ?_)
  apply G.seq
  apply G.seq
  refine G.rg tab_ok ok_indexStr (hk := ?_)
  apply G.block
  refine G.cn [0, 1, 7, 8] [] (h := ?_)
  refine G.loopX (fun j : Nat => ⟨[(0, .row false 1 (ins.map ivL)), (1, .fn 96 []), (7, .int .i64 ins.length), (8, .int .i64 j)], [], 19⟩) (fun j => j ≤ ins.length ∧ ∀ k < j, (fun x => !(strOk x)) (ins.getD k default) = false) (fun j => ins.length - j) (0) (⟨Nat.zero_le _, by omega⟩) (by simp) ?_
  intro j hj J hJ
  obtain ⟨hj, hall⟩ := hj
  have hw : IntKind.i64.wrap ((j : Int) + 1) = (j : Int) + 1 := wrap64 (by omega) (by omega)
  apply G.seq
  refine G.rg tab_ok ok_indexStr (hk := ?_)
  apply G.seq
  refine G.iff (h1 := fun h1 => ?_) (h2 := fun h1 => ?_)
  · try simp only [zz, bne_iff_ne, beq_iff_eq, bne_eq_false_iff_eq, beq_eq_false_iff_ne, ne_eq, gt_iff_lt, ge_iff_le] at h1
    apply G.skip
    apply G.seq
    apply G.block
    apply G.seq
    refine G.rg tab_ok ok_indexStr (hk := ?_)
    apply G.seq
    have hlr : (ins.getD j default).length < 17592186044416 := hc2 _ (getD_mem h1)
    refine G.rg tab_ok ok_indexStr (hk := ?_)
    refine G.fg [0, 1, 5, 7, 8, 16] (hk := ?_)
    refine G.iff (h1 := fun h2 => ?_) (h2 := fun h2 => ?_)
    · try simp only [zz, bne_iff_ne, beq_iff_eq, bne_eq_false_iff_eq, beq_eq_false_iff_ne, ne_eq, gt_iff_lt, ge_iff_le] at h2
      apply G.seq
      refine G.rg tab_ok ok_indexStr (hk := ?_)
      refine G.fin tab_ok (hr := ?_)
      simp only [oneOrTup]
      congr 1
      exact (gidx_some (p := fun x => !(strOk x)) h1 hall (by simp only [Bool.not_eq_true']; exact h2)).symm
    · try simp only [zz, bne_iff_ne, beq_iff_eq, bne_eq_false_iff_eq, beq_eq_false_iff_ne, ne_eq, gt_iff_lt, ge_iff_le] at h2
      apply G.skip
      apply G.blk
      refine G.rg tab_ok ok_indexStr (hk := ?_)
      refine G.cn [0, 1, 7, 8] [] (h := ?_)
      exact G.upto (hJ (j + 1) ⟨by omega, gupto (p := fun x => !(strOk x)) hall (by simp only [Bool.not_eq_false']; exact h2)⟩ (by omega)) (by simp)
  · try simp only [zz, bne_iff_ne, beq_iff_eq, bne_eq_false_iff_eq, beq_eq_false_iff_ne, ne_eq, gt_iff_lt, ge_iff_le] at h1
    refine G.exit rfl ?_
    apply G.seq
    refine G.rg tab_ok ok_indexStr (hk := ?_)
    refine G.fin tab_ok (hr := ?_)
    simp only [oneOrTup]
    congr 1
    exact (gidx_none (fun k hk => hall k (by omega))).symm
def r_indexStr (xs0 : List A) (rr : A) : Prop := ∃ (ins : List (List Int)), (ins.length < 5864062014805) ∧ (LW ins) ∧ xs0 = [.row false 1 (ins.map ivL), .fn 96 []] ∧ rr = .int .i64 (gidx (fun x => !(strOk x)) ins)
noncomputable def q_indexStr : List A → Option A := kgr r_indexStr
theorem k_indexStr : KOk Try.prog (161, q_indexStr) := kgr_ok (enters_of Try.func161 rfl rfl) (by rintro xs0 rr ⟨ins, hc1, hc2, rfl, rfl⟩; exact indexStr_ac ins hc1 hc2)
theorem e_indexStr : ∀ (ins : List (List Int)), (ins.length < 5864062014805) → (LW ins) → q_indexStr [.row false 1 (ins.map ivL), .fn 96 []] = some (.int .i64 (gidx (fun x => !(strOk x)) ins)) := by
  intro ins hc1 hc2
  refine kgr_eq (fun xs0 rr r2 h h2 => ?_) ⟨ins, hc1, hc2, rfl, rfl⟩
  obtain ⟨ins1, _, _, e1, rfl⟩ := h; obtain ⟨ins2, _, _, e2, rfl⟩ := h2
  rw [e1] at e2
  simp only [List.cons.injEq, A.row.injEq, ivL_inj, true_and, and_true] at e2
  simp [e2]
theorem ok_containsStr : Kn.ok Try.prog (kof [(161, q_indexStr)]) := kof_cons k_indexStr ((kof_nil _))
theorem containsStr_ac (ins : List (List Int)) (hc1 : ins.length < 5864062014805) (hc2 : LW ins) : AC Try.prog 95 [.row false 1 (ins.map ivL), .fn 96 []] (.bool (!(ins.all strOk))) := by
  have e_indexStr := e_indexStr
  refine AC.of tab_ok Try.func95 rfl (Nat.le_of_ble_eq_true rfl) fun w0 S0 => ?_
  change G _ _ ⟨[(0, .row false 1 (ins.map ivL)), (1, .fn 96 [])], [], 9⟩
  apply G.seq
  refine G.rg tab_ok ok_containsStr (hk := ?_)
  apply G.seq
  refine G.rg tab_ok ok_containsStr (hk := ?_)
  refine G.fin tab_ok (hr := ?_)
  simp only [oneOrTup]
  congr 1
  exact gidx_pos _ _
def r_containsStr (xs0 : List A) (rr : A) : Prop := ∃ (ins : List (List Int)), (ins.length < 5864062014805) ∧ (LW ins) ∧ xs0 = [.row false 1 (ins.map ivL), .fn 96 []] ∧ rr = .bool (!(ins.all strOk))
noncomputable def q_containsStr : List A → Option A := kgr r_containsStr
theorem k_containsStr : KOk Try.prog (95, q_containsStr) := kgr_ok (enters_of Try.func95 rfl rfl) (by rintro xs0 rr ⟨ins, hc1, hc2, rfl, rfl⟩; exact containsStr_ac ins hc1 hc2)
theorem e_containsStr : ∀ (ins : List (List Int)), (ins.length < 5864062014805) → (LW ins) → q_containsStr [.row false 1 (ins.map ivL), .fn 96 []] = some (.bool (!(ins.all strOk))) := by
  intro ins hc1 hc2
  refine kgr_eq (fun xs0 rr r2 h h2 => ?_) ⟨ins, hc1, hc2, rfl, rfl⟩
  obtain ⟨ins1, _, _, e1, rfl⟩ := h; obtain ⟨ins2, _, _, e2, rfl⟩ := h2
  rw [e1] at e2
  simp only [List.cons.injEq, A.row.injEq, ivL_inj, true_and, and_true] at e2
  simp [e2]
end Go.Proofs.Ytimgfinlbhodhaa.Ab
