/- Walks of functions of the program: what each answers, for all arguments that meet its conditions. -/
import Derived.Test.YticgaflgbljhlaaAbP1
namespace Go.Proofs.Yticgaflgbljhlaa.Ab
open Go
set_option linter.unusedVariables false
set_option linter.unusedSimpArgs false
set_option maxHeartbeats 4000000


theorem ok_eqProgram : Kn.ok Try.prog (kof [(171, q_eqInstrS)]) := kof_cons k_eqInstrS ((kof_nil _))
theorem eqProgram_ac (i : Int) (o : Int) (l : List I4) (i' : Int) (o' : Int) (l' : List I4) (hc1 : l.length < 4398046511104) (hc2 : l'.length < 4398046511104) : AC Try.prog 144 [.agg [.int .i64 i, .int .i64 o, .row false 4 (l.map insv)], .agg [.int .i64 i', .int .i64 o', .row false 4 (l'.map insv)]] (.bool (decide ((i, o, l) = (i', o', l')))) := by
  have e_eqInstrS := e_eqInstrS
  refine AC.of tab_ok Try.func144 rfl (Nat.le_of_ble_eq_true rfl) fun w0 S0 => ?_
  change G _ _ ⟨[(0, .agg [.int .i64 i, .int .i64 o, .row false 4 (l.map insv)]), (1, .agg [.int .i64 i', .int .i64 o', .row false 4 (l'.map insv)])], [], 21⟩
  apply G.seq
  refine G.rg tab_ok ok_eqProgram (hk := ?_)
  apply G.seq
  apply G.seq
  refine G.rg tab_ok ok_eqProgram (hk := ?_)
  refine G.iff (h1 := fun h1 => ?_) (h2 := fun h1 => ?_)
  · try simp only [decide_eq_true_eq, decide_eq_false_iff_not, Bool.and_eq_true, Bool.and_eq_false_imp, Bool.or_eq_true, Bool.or_eq_false_iff, Bool.not_eq_true', Bool.not_eq_false', bne_iff_ne, beq_iff_eq, bne_eq_false_iff_eq, beq_eq_false_iff_ne, ne_eq, Int.ofNat_lt, Int.not_lt, Int.not_le, Int.ofNat_le, Nat.not_lt, Nat.not_le, gt_iff_lt, ge_iff_le] at h1
    apply G.seq
    refine G.rg tab_ok ok_eqProgram (hk := ?_)
    refine G.fin tab_ok (hr := ?_)
    simp [oneOrTup, *]
  · try simp only [decide_eq_true_eq, decide_eq_false_iff_not, Bool.and_eq_true, Bool.and_eq_false_imp, Bool.or_eq_true, Bool.or_eq_false_iff, Bool.not_eq_true', Bool.not_eq_false', bne_iff_ne, beq_iff_eq, bne_eq_false_iff_eq, beq_eq_false_iff_ne, ne_eq, Int.ofNat_lt, Int.not_lt, Int.not_le, Int.ofNat_le, Nat.not_lt, Nat.not_le, gt_iff_lt, ge_iff_le] at h1
    apply G.skip
    apply G.seq
    apply G.seq
    refine G.rg tab_ok ok_eqProgram (hk := ?_)
    refine G.fg [2, 3, 14] (hk := ?_)
    refine G.iff (h1 := fun h2 => ?_) (h2 := fun h2 => ?_)
    · try simp only [decide_eq_true_eq, decide_eq_false_iff_not, Bool.and_eq_true, Bool.and_eq_false_imp, Bool.or_eq_true, Bool.or_eq_false_iff, Bool.not_eq_true', Bool.not_eq_false', bne_iff_ne, beq_iff_eq, bne_eq_false_iff_eq, beq_eq_false_iff_ne, ne_eq, Int.ofNat_lt, Int.not_lt, Int.not_le, Int.ofNat_le, Nat.not_lt, Nat.not_le, gt_iff_lt, ge_iff_le] at h2
      apply G.seq
      refine G.rg tab_ok ok_eqProgram (hk := ?_)
      refine G.fin tab_ok (hr := ?_)
      simp [oneOrTup, *]
    · try simp only [decide_eq_true_eq, decide_eq_false_iff_not, Bool.and_eq_true, Bool.and_eq_false_imp, Bool.or_eq_true, Bool.or_eq_false_iff, Bool.not_eq_true', Bool.not_eq_false', bne_iff_ne, beq_iff_eq, bne_eq_false_iff_eq, beq_eq_false_iff_ne, ne_eq, Int.ofNat_lt, Int.not_lt, Int.not_le, Int.ofNat_le, Nat.not_lt, Nat.not_le, gt_iff_lt, ge_iff_le] at h2
      apply G.skip
      apply G.seq
      apply G.seq
      refine G.rg tab_ok ok_eqProgram (hk := ?_)
      refine G.iff (h1 := fun h3 => ?_) (h2 := fun h3 => ?_)
      · try simp only [decide_eq_true_eq, decide_eq_false_iff_not, Bool.and_eq_true, Bool.and_eq_false_imp, Bool.or_eq_true, Bool.or_eq_false_iff, Bool.not_eq_true', Bool.not_eq_false', bne_iff_ne, beq_iff_eq, bne_eq_false_iff_eq, beq_eq_false_iff_ne, ne_eq, Int.ofNat_lt, Int.not_lt, Int.not_le, Int.ofNat_le, Nat.not_lt, Nat.not_le, gt_iff_lt, ge_iff_le] at h3
        apply G.seq
        refine G.rg tab_ok ok_eqProgram (hk := ?_)
        refine G.fin tab_ok (hr := ?_)
        simp [oneOrTup, *]
      · try simp only [decide_eq_true_eq, decide_eq_false_iff_not, Bool.and_eq_true, Bool.and_eq_false_imp, Bool.or_eq_true, Bool.or_eq_false_iff, Bool.not_eq_true', Bool.not_eq_false', bne_iff_ne, beq_iff_eq, bne_eq_false_iff_eq, beq_eq_false_iff_ne, ne_eq, Int.ofNat_lt, Int.not_lt, Int.not_le, Int.ofNat_le, Nat.not_lt, Nat.not_le, gt_iff_lt, ge_iff_le] at h3
        apply G.skip
        apply G.seq
        refine G.rg tab_ok ok_eqProgram (hk := ?_)
        refine G.fin tab_ok (hr := ?_)
        simp [oneOrTup, *]
def r_eqProgram (xs0 : List A) (rr : A) : Prop := ∃ (i : Int) (o : Int) (l : List I4) (i' : Int) (o' : Int) (l' : List I4), (l.length < 4398046511104) ∧ (l'.length < 4398046511104) ∧ xs0 = [.agg [.int .i64 i, .int .i64 o, .row false 4 (l.map insv)], .agg [.int .i64 i', .int .i64 o', .row false 4 (l'.map insv)]] ∧ rr = .bool (decide ((i, o, l) = (i', o', l')))
noncomputable def q_eqProgram : List A → Option A := kgr r_eqProgram
theorem k_eqProgram : KOk Try.prog (144, q_eqProgram) := kgr_ok (enters_of Try.func144 rfl rfl) (by rintro xs0 rr ⟨i, o, l, i', o', l', hc1, hc2, rfl, rfl⟩; exact eqProgram_ac i o l i' o' l' hc1 hc2)
theorem e_eqProgram : ∀ (i : Int) (o : Int) (l : List I4) (i' : Int) (o' : Int) (l' : List I4), (l.length < 4398046511104) → (l'.length < 4398046511104) → q_eqProgram [.agg [.int .i64 i, .int .i64 o, .row false 4 (l.map insv)], .agg [.int .i64 i', .int .i64 o', .row false 4 (l'.map insv)]] = some (.bool (decide ((i, o, l) = (i', o', l')))) := by
  intro i o l i' o' l' hc1 hc2
  refine kgr_eq (fun xs0 rr r2 h h2 => ?_) ⟨i, o, l, i', o', l', hc1, hc2, rfl, rfl⟩
  obtain ⟨i1, o1, l1, i'1, o'1, l'1, _, _, e1, rfl⟩ := h; obtain ⟨i2, o2, l2, i'2, o'2, l'2, _, _, e2, rfl⟩ := h2
  rw [e1] at e2
  simp only [List.cons.injEq, A.int.injEq, A.bool.injEq, A.agg.injEq, A.row.injEq, A.fn.injEq, A.rp.injEq, insv_inj, iv_inj, true_and, and_true] at e2
  simp [e2]

end Go.Proofs.Yticgaflgbljhlaa.Ab
