/- Walks of functions of the program: what each answers, for all arguments that meet its conditions. -/
import Derived.Test.YticgaflgbljhlaaAbReg0
import Derived.Test.YticgaflgbljhlaaAbP5
namespace Go.Proofs.Yticgaflgbljhlaa.Ab
open Go
set_option linter.unusedVariables false
set_option linter.unusedSimpArgs false
set_option maxHeartbeats 4000000

theorem ok_specNewActorT : Kn.ok Try.prog (kof [(133, q_specIsProgram)]) := kof_cons k_specIsProgram ((kof_nil _))
theorem specNewActorT_ac (i : Int) (o : Int) (l : List I4) (hc1 : l.length < 4398046511104) (hc2 : progOk i o l = true) : AC Try.prog 83 [.agg [.int .i64 i, .int .i64 o, .row false 4 (l.map insv)]] (.agg [.int .i64 0, .row true 1 [[.int .i64 0], [.int .i64 0], [.int .i64 0], [.int .i64 0]]]) := by
  have e_specIsProgram := e_specIsProgram
  refine AC.of tab_ok Try.func83 rfl (Nat.le_of_ble_eq_true rfl) fun w0 S0 => ?_
  change G _ _ ⟨[(0, .agg [.int .i64 i, .int .i64 o, .row false 4 (l.map insv)])], [], 9⟩
  apply G.seq
  refine G.rg tab_ok ok_specNewActorT (hk := ?_)
  apply G.seq
  apply G.seq
  refine G.rg tab_ok ok_specNewActorT (hk := ?_)
  refine G.iffF (h2 := ?_)
  apply G.skip
  apply G.seq
  refine G.rg tab_ok ok_specNewActorT (hk := ?_)
  refine G.fin tab_ok (hr := ?_)
  rfl

theorem ok_specNewActorF : Kn.ok Try.prog (kof [(133, q_specIsProgram)]) := kof_cons k_specIsProgram ((kof_nil _))
theorem specNewActorF_ac (i : Int) (o : Int) (l : List I4) (hc1 : l.length < 4398046511104) (hc2 : progOk i o l = false) : AC Try.prog 83 [.agg [.int .i64 i, .int .i64 o, .row false 4 (l.map insv)]] (.agg [.int .i64 0, .nils]) := by
  have e_specIsProgram := e_specIsProgram
  refine AC.of tab_ok Try.func83 rfl (Nat.le_of_ble_eq_true rfl) fun w0 S0 => ?_
  change G _ _ ⟨[(0, .agg [.int .i64 i, .int .i64 o, .row false 4 (l.map insv)])], [], 9⟩
  apply G.seq
  refine G.rg tab_ok ok_specNewActorF (hk := ?_)
  apply G.seq
  apply G.seq
  refine G.rg tab_ok ok_specNewActorF (hk := ?_)
  refine G.iffT (h1 := ?_)
  apply G.seq
  refine G.rg tab_ok ok_specNewActorF (hk := ?_)
  refine G.fin tab_ok (hr := ?_)
  rfl

theorem specNewActor_ac (i : Int) (o : Int) (l : List I4) (hc1 : l.length < 4398046511104) : AC Try.prog 83 [.agg [.int .i64 i, .int .i64 o, .row false 4 (l.map insv)]] (.agg [.int .i64 0, .row true 1 ((regs0 i o l).map iv)]) := by
  cases hp : progOk i o l with
  | true => have := specNewActorT_ac i o l hc1 hp; simpa [regs0, hp, iv] using this
  | false =>
    refine AC.weak (specNewActorF_ac i o l hc1 hp) fun w S v f h => ?_
    simp only [regs0, hp, Bool.false_eq_true, if_false, List.map_nil]
    exact weak_nil h
def r_specNewActor (xs0 : List A) (rr : A) : Prop := ∃ (i : Int) (o : Int) (l : List I4), (l.length < 4398046511104) ∧ xs0 = [.agg [.int .i64 i, .int .i64 o, .row false 4 (l.map insv)]] ∧ rr = .agg [.int .i64 0, .row true 1 ((regs0 i o l).map iv)]
noncomputable def q_specNewActor : List A → Option A := kgr r_specNewActor
theorem k_specNewActor : KOk Try.prog (83, q_specNewActor) := kgr_ok (enters_of Try.func83 rfl rfl) (by rintro xs0 rr ⟨i, o, l, hc1, rfl, rfl⟩; exact specNewActor_ac i o l hc1)
theorem e_specNewActor : ∀ (i : Int) (o : Int) (l : List I4), (l.length < 4398046511104) → q_specNewActor [.agg [.int .i64 i, .int .i64 o, .row false 4 (l.map insv)]] = some (.agg [.int .i64 0, .row true 1 ((regs0 i o l).map iv)]) := by
  intro i o l hc1
  refine kgr_eq (fun xs0 rr r2 h h2 => ?_) ⟨i, o, l, hc1, rfl, rfl⟩
  obtain ⟨i1, o1, l1, _, e1, rfl⟩ := h; obtain ⟨i2, o2, l2, _, e2, rfl⟩ := h2
  rw [e1] at e2
  simp only [List.cons.injEq, A.int.injEq, A.bool.injEq, A.agg.injEq, A.row.injEq, A.fn.injEq, A.rp.injEq, insv_inj, iv_inj, true_and, and_true] at e2
  simp [e2]

end Go.Proofs.Yticgaflgbljhlaa.Ab
