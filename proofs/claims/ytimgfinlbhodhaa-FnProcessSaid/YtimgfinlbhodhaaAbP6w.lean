/- Walks of functions of the program: what each answers, for all arguments that meet its conditions. -/
import Derived.Test.YtimgfinlbhodhaaFwGc
namespace Go.Proofs.Ytimgfinlbhodhaa.Ab
open Go
set_option linter.unusedVariables false
set_option linter.unusedSimpArgs false
set_option maxHeartbeats 4000000
theorem ok_implWantOf : Kn.ok Try.prog (kof [(99, q_implIsActor), (100, q_implWant)]) := kof_cons k_implIsActor (kof_cons k_implWant ((kof_nil _)))
theorem implWantOf_ac (i : Int) (o : Int) (l : List I4) (pc : Int) (rs : List Int) (hc1 : l.length < 4398046511104) (hc2 : rs.length < 17592186044416) : AC Try.prog 33 [.agg [.int .i64 i, .int .i64 o, .row false 4 (l.map insv)], .agg [.int .i64 pc, .row false 1 (rs.map iv)]] (.tup [.int .i64 (wantOf i o l pc rs).1, .int .i64 (wantOf i o l pc rs).2]) := by
  have e_implIsActor := e_implIsActor
  have e_implWant := e_implWant
  refine AC.of tab_ok Try.func33 rfl (Nat.le_of_ble_eq_true rfl) fun w0 S0 => ?_
  change G _ _ ⟨[(0, .agg [.int .i64 i, .int .i64 o, .row false 4 (l.map insv)]), (1, .agg [.int .i64 pc, .row false 1 (rs.map iv)])], [], 15⟩
  apply G.seq
  refine G.rg tab_ok ok_implWantOf (hk := ?_)
  apply G.seq
  apply G.seq
  refine G.rg tab_ok ok_implWantOf (hk := ?_)
  refine G.iff (h1 := fun h1 => ?_) (h2 := fun h1 => ?_)
  · try simp only [zz, bne_iff_ne, beq_iff_eq, bne_eq_false_iff_eq, beq_eq_false_iff_ne, ne_eq, gt_iff_lt, ge_iff_le] at h1
    apply G.seq
    refine G.rg tab_ok ok_implWantOf (hk := ?_)
    refine G.fin tab_ok (hr := ?_)
    have hh : (progOk i o l && actOk pc l.length rs) = false := by cases hp : progOk i o l <;> cases ha : actOk pc l.length rs <;> simp_all
    simp only [oneOrTup, wantOf, hh, Bool.false_eq_true, if_false]
  · try simp only [zz, bne_iff_ne, beq_iff_eq, bne_eq_false_iff_eq, beq_eq_false_iff_ne, ne_eq, gt_iff_lt, ge_iff_le] at h1
    apply G.skip
    apply G.seq
    obtain ⟨hpo, hao⟩ := h1
    obtain ⟨hp1, hp2⟩ := act_pc hao
    refine G.rg tab_ok ok_implWantOf (hk := ?_)
    refine G.fin tab_ok (hr := ?_)
    have hh : (progOk i o l && actOk pc l.length rs) = true := by rw [hpo, hao]; rfl
    simp only [oneOrTup, wantOf, hh, if_true]
def r_implWantOf (xs0 : List A) (rr : A) : Prop := ∃ (i : Int) (o : Int) (l : List I4) (pc : Int) (rs : List Int), (l.length < 4398046511104) ∧ (rs.length < 17592186044416) ∧ xs0 = [.agg [.int .i64 i, .int .i64 o, .row false 4 (l.map insv)], .agg [.int .i64 pc, .row false 1 (rs.map iv)]] ∧ rr = .tup [.int .i64 (wantOf i o l pc rs).1, .int .i64 (wantOf i o l pc rs).2]
noncomputable def q_implWantOf : List A → Option A := kgr r_implWantOf
theorem k_implWantOf : KOk Try.prog (33, q_implWantOf) := kgr_ok (enters_of Try.func33 rfl rfl) (by rintro xs0 rr ⟨i, o, l, pc, rs, hc1, hc2, rfl, rfl⟩; exact implWantOf_ac i o l pc rs hc1 hc2)
theorem e_implWantOf : ∀ (i : Int) (o : Int) (l : List I4) (pc : Int) (rs : List Int), (l.length < 4398046511104) → (rs.length < 17592186044416) → q_implWantOf [.agg [.int .i64 i, .int .i64 o, .row false 4 (l.map insv)], .agg [.int .i64 pc, .row false 1 (rs.map iv)]] = some (.tup [.int .i64 (wantOf i o l pc rs).1, .int .i64 (wantOf i o l pc rs).2]) := by
  intro i o l pc rs hc1 hc2
  refine kgr_eq (fun xs0 rr r2 h h2 => ?_) ⟨i, o, l, pc, rs, hc1, hc2, rfl, rfl⟩
  obtain ⟨i1, o1, l1, pc1, rs1, _, _, e1, rfl⟩ := h; obtain ⟨i2, o2, l2, pc2, rs2, _, _, e2, rfl⟩ := h2
  rw [e1] at e2
  simp only [List.cons.injEq, A.int.injEq, A.bool.injEq, A.agg.injEq, A.row.injEq, A.fn.injEq, A.rp.injEq, insv_inj, iv_inj, true_and, and_true] at e2
  simp [e2]
end Go.Proofs.Ytimgfinlbhodhaa.Ab
