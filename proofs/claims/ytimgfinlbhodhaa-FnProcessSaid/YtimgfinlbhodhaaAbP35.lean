/- Walks of functions of the program: what each answers, for all arguments that meet its conditions. -/
import Derived.Test.YtimgfinlbhodhaaFwGd
import Derived.Test.YtimgfinlbhodhaaFwGf
namespace Go.Proofs.Ytimgfinlbhodhaa.Ab
open Go
set_option linter.unusedVariables false
set_option linter.unusedSimpArgs false
set_option maxHeartbeats 4000000
theorem ok_implStepActor : Kn.ok Try.prog (kof [(99, q_implIsActor), (100, q_implWant), (101, q_isToken), (71, q_cloneInt)]) := kof_cons k_implIsActor (kof_cons k_implWant (kof_cons k_isToken (kof_cons k_cloneInt ((kof_nil _)))))
theorem en_implStepA : Enters Try.prog 102 := enters_of Try.func102 rfl rfl
theorem implStepActor_ac (i : Int) (o : Int) (l : List I4) (pc : Int) (rs : List Int) (token : Int) (hc1 : l.length < 4398046511104) (hc2 : rs.length < 17592186044416) : AC Try.prog 34 [.agg [.int .i64 i, .int .i64 o, .row false 4 (l.map insv)], .agg [.int .i64 pc, .row false 1 (rs.map iv)], .int .i64 token] (.tup [.agg [.int .i64 (stepO i o l pc rs token).1.1, .row true 1 ((stepO i o l pc rs token).1.2.map iv)], .int .i64 (stepO i o l pc rs token).2.1, .bool (stepO i o l pc rs token).2.2]) := by
  have e_implIsActor := e_implIsActor
  have e_implWant := e_implWant
  have e_isToken := e_isToken
  have e_cloneInt := e_cloneInt
  refine AC.of tab_ok Try.func34 rfl (Nat.le_of_ble_eq_true rfl) fun w0 S0 => ?_
  change G _ _ ⟨[(0, .agg [.int .i64 i, .int .i64 o, .row false 4 (l.map insv)]), (1, .agg [.int .i64 pc, .row false 1 (rs.map iv)]), (2, .int .i64 token)], [], 47⟩
  apply G.seq
  refine G.rg tab_ok ok_implStepActor (hk := ?_)
  apply G.seq
  apply G.seq
  refine G.rg tab_ok ok_implStepActor (hk := ?_)
  refine G.fg [2, 3, 4, 6, 11, 16, 36, 37, 38, 39, 40, 41] (hk := ?_)
  refine G.iff (h1 := fun h1 => ?_) (h2 := fun h1 => ?_)
  · try simp only [zz, bne_iff_ne, beq_iff_eq, bne_eq_false_iff_eq, beq_eq_false_iff_ne, ne_eq, gt_iff_lt, ge_iff_le] at h1
    apply G.seq
    refine G.rg tab_ok ok_implStepActor (hk := ?_)
    refine G.focusNil 2 0 1 1 rfl rfl rfl ?_
    refine G.fin tab_ok (hr := ?_)
    have hb : stepBad i o l pc rs token = true := by
      unfold stepBad
      cases hp : progOk i o l <;> simp_all
    simp only [oneOrTup, stepO, hb, if_true]
    rfl
  · try simp only [zz, bne_iff_ne, beq_iff_eq, bne_eq_false_iff_eq, beq_eq_false_iff_ne, ne_eq, gt_iff_lt, ge_iff_le] at h1
    apply G.skip
    apply G.seq
    apply G.seq
    obtain ⟨hpo, hao⟩ := h1
    obtain ⟨hp1, hp2⟩ := act_pc hao
    refine G.rg tab_ok ok_implStepActor (hk := ?_)
    apply G.seq
    refine G.rg tab_ok ok_implStepActor (hk := ?_)
    refine G.fg [2, 3, 4, 6, 11, 34, 36, 37, 38, 39, 40, 41] (hk := ?_)
    refine G.iff (h1 := fun h2 => ?_) (h2 := fun h2 => ?_)
    · try simp only [zz, bne_iff_ne, beq_iff_eq, bne_eq_false_iff_eq, beq_eq_false_iff_ne, ne_eq, gt_iff_lt, ge_iff_le] at h2
      apply G.seq
      refine G.rg tab_ok ok_implStepActor (hk := ?_)
      refine G.focusNil 2 0 1 1 rfl rfl rfl ?_
      refine G.fin tab_ok (hr := ?_)
      have hb : stepBad i o l pc rs token = true := by
        unfold stepBad
        rcases h2 with h2 | h2 <;> simp [h2]
      simp only [oneOrTup, stepO, hb, if_true]
      rfl
    · try simp only [zz, bne_iff_ne, beq_iff_eq, bne_eq_false_iff_eq, beq_eq_false_iff_ne, ne_eq, gt_iff_lt, ge_iff_le] at h2
      apply G.skip
      apply G.seq
      have hlt : pc < (l.length : Int) := wantK_lt hp2 h2.1
      obtain ⟨hreg, hop⟩ := regOk_of hpo hao hp1 hlt
      have hl24 := progOk_len hpo
      have hrb : rs.length ≤ 1048576 := by have := hreg.b8; omega
      apply G.joinR
      · intro hk
        refine G.drawL (c := ⟨Try.prog, tab, _, _, _, _, _⟩) mixed tab_ok ok_implStepActor 8 ?_ rfl
        refine AnyL.gg (n := 4) 4 [0, 1, 2, 3] (h := ?_)
        refine AnyL.fk2 (n := 3) 4 6 (k1 := ?_) (k2 := ?_)
        · skip
          refine AnyL.gg (n := 0) 3 [5, 6, 7] (h := ?_)
          exact AnyL.ln [2, 3, 6, 11] (h := hk)
        · skip
          refine AnyL.gg (n := 0) 3 [4, 5, 7] (h := ?_)
          exact AnyL.ln [2, 3, 6, 11] (h := hk)
      apply G.seq
      have hsl1 : rs.length ≤ (stepRs (l.getD pc.toNat default) rs token).length := by rw [stepRs_len]; exact Nat.le_refl _
      have hstk : List.take rs.length (List.map iv (stepRs (l.getD pc.toNat default) rs token)) = List.map iv (stepRs (l.getD pc.toNat default) rs token) := List.take_of_length_le (by simp [stepRs_len])
      refine G.rgN 2 tab_ok ok_implStepActor (hk := ?_)
      refine G.cf [2, 3] en_implStepA (implStep_mc _ i o l pc rs token rfl hp1 hlt hl24 hreg) (h := ?_)
      refine G.rgC tab_ok ok_implStepActor (hk := ?_)
      apply G.seq
      refine G.rg tab_ok ok_implStepActor (hk := ?_)
      refine G.fin tab_ok (hr := ?_)
      have hb : stepBad i o l pc rs token = false := by
        unfold stepBad
        simp_all
      simp only [oneOrTup, stepO, hb, if_false, Bool.false_eq_true]
def r_implStepActor (xs0 : List A) (rr : A) : Prop := ∃ (i : Int) (o : Int) (l : List I4) (pc : Int) (rs : List Int) (token : Int), (l.length < 4398046511104) ∧ (rs.length < 17592186044416) ∧ xs0 = [.agg [.int .i64 i, .int .i64 o, .row false 4 (l.map insv)], .agg [.int .i64 pc, .row false 1 (rs.map iv)], .int .i64 token] ∧ rr = .tup [.agg [.int .i64 (stepO i o l pc rs token).1.1, .row true 1 ((stepO i o l pc rs token).1.2.map iv)], .int .i64 (stepO i o l pc rs token).2.1, .bool (stepO i o l pc rs token).2.2]
noncomputable def q_implStepActor : List A → Option A := kgr r_implStepActor
theorem k_implStepActor : KOk Try.prog (34, q_implStepActor) := kgr_ok (enters_of Try.func34 rfl rfl) (by rintro xs0 rr ⟨i, o, l, pc, rs, token, hc1, hc2, rfl, rfl⟩; exact implStepActor_ac i o l pc rs token hc1 hc2)
theorem e_implStepActor : ∀ (i : Int) (o : Int) (l : List I4) (pc : Int) (rs : List Int) (token : Int), (l.length < 4398046511104) → (rs.length < 17592186044416) → q_implStepActor [.agg [.int .i64 i, .int .i64 o, .row false 4 (l.map insv)], .agg [.int .i64 pc, .row false 1 (rs.map iv)], .int .i64 token] = some (.tup [.agg [.int .i64 (stepO i o l pc rs token).1.1, .row true 1 ((stepO i o l pc rs token).1.2.map iv)], .int .i64 (stepO i o l pc rs token).2.1, .bool (stepO i o l pc rs token).2.2]) := by
  intro i o l pc rs token hc1 hc2
  refine kgr_eq (fun xs0 rr r2 h h2 => ?_) ⟨i, o, l, pc, rs, token, hc1, hc2, rfl, rfl⟩
  obtain ⟨i1, o1, l1, pc1, rs1, token1, _, _, e1, rfl⟩ := h; obtain ⟨i2, o2, l2, pc2, rs2, token2, _, _, e2, rfl⟩ := h2
  rw [e1] at e2
  simp only [List.cons.injEq, A.int.injEq, A.bool.injEq, A.agg.injEq, A.row.injEq, A.fn.injEq, A.rp.injEq, insv_inj, iv_inj, true_and, and_true] at e2
  simp [e2]
end Go.Proofs.Ytimgfinlbhodhaa.Ab
