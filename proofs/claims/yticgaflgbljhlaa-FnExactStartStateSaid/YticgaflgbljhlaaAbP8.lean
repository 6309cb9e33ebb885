/- Walks of functions of the program: what each answers, for all arguments that meet its conditions. -/
import Derived.Test.YticgaflgbljhlaaAbReg0
import Derived.Test.YticgaflgbljhlaaAbP5
namespace Go.Proofs.Yticgaflgbljhlaa.Ab
open Go
set_option linter.unusedVariables false
set_option linter.unusedSimpArgs false
set_option maxHeartbeats 4000000

theorem ok_implNewActorT : Kn.ok Try.prog (kof [(123, q_implIsProgram)]) := kof_cons k_implIsProgram ((kof_nil _))
theorem implNewActorT_ac (i : Int) (o : Int) (l : List I4) (hc1 : l.length < 4398046511104) (hc2 : progOk i o l = true) : AC Try.prog 84 [.agg [.int .i64 i, .int .i64 o, .row false 4 (l.map insv)]] (.agg [.int .i64 0, .row true 1 [[.int .i64 0], [.int .i64 0], [.int .i64 0], [.int .i64 0]]]) := by
  have e_implIsProgram := e_implIsProgram
  refine AC.of tab_ok Try.func84 rfl (Nat.le_of_ble_eq_true rfl) fun w0 S0 => ?_
  change G _ _ ⟨[(0, .agg [.int .i64 i, .int .i64 o, .row false 4 (l.map insv)])], [], 9⟩
  apply G.seq
  refine G.rg tab_ok ok_implNewActorT (hk := ?_)
  apply G.seq
  apply G.seq
  refine G.rg tab_ok ok_implNewActorT (hk := ?_)
  refine G.iffF (h2 := ?_)
  apply G.skip
  apply G.seq
  refine G.rg tab_ok ok_implNewActorT (hk := ?_)
  refine G.fin tab_ok (hr := ?_)
  rfl

theorem ok_implNewActorF : Kn.ok Try.prog (kof [(123, q_implIsProgram)]) := kof_cons k_implIsProgram ((kof_nil _))
theorem implNewActorF_ac (i : Int) (o : Int) (l : List I4) (hc1 : l.length < 4398046511104) (hc2 : progOk i o l = false) : AC Try.prog 84 [.agg [.int .i64 i, .int .i64 o, .row false 4 (l.map insv)]] (.agg [.int .i64 0, .nils]) := by
  have e_implIsProgram := e_implIsProgram
  refine AC.of tab_ok Try.func84 rfl (Nat.le_of_ble_eq_true rfl) fun w0 S0 => ?_
  change G _ _ ⟨[(0, .agg [.int .i64 i, .int .i64 o, .row false 4 (l.map insv)])], [], 9⟩
  apply G.seq
  refine G.rg tab_ok ok_implNewActorF (hk := ?_)
  apply G.seq
  apply G.seq
  refine G.rg tab_ok ok_implNewActorF (hk := ?_)
  refine G.iffT (h1 := ?_)
  apply G.seq
  refine G.rg tab_ok ok_implNewActorF (hk := ?_)
  refine G.fin tab_ok (hr := ?_)
  rfl

theorem implNewActor_ac (i : Int) (o : Int) (l : List I4) (hc1 : l.length < 4398046511104) : AC Try.prog 84 [.agg [.int .i64 i, .int .i64 o, .row false 4 (l.map insv)]] (.agg [.int .i64 0, .row true 1 ((regs0 i o l).map iv)]) := by
  cases hp : progOk i o l with
  | true => have := implNewActorT_ac i o l hc1 hp; simpa [regs0, hp, iv] using this
  | false =>
    refine AC.weak (implNewActorF_ac i o l hc1 hp) fun w S v f h => ?_
    simp only [regs0, hp, Bool.false_eq_true, if_false, List.map_nil]
    exact weak_nil h
def r_implNewActor (xs0 : List A) (rr : A) : Prop := ∃ (i : Int) (o : Int) (l : List I4), (l.length < 4398046511104) ∧ xs0 = [.agg [.int .i64 i, .int .i64 o, .row false 4 (l.map insv)]] ∧ rr = .agg [.int .i64 0, .row true 1 ((regs0 i o l).map iv)]
noncomputable def q_implNewActor : List A → Option A := kgr r_implNewActor
theorem k_implNewActor : KOk Try.prog (84, q_implNewActor) := kgr_ok (enters_of Try.func84 rfl rfl) (by rintro xs0 rr ⟨i, o, l, hc1, rfl, rfl⟩; exact implNewActor_ac i o l hc1)
theorem e_implNewActor : ∀ (i : Int) (o : Int) (l : List I4), (l.length < 4398046511104) → q_implNewActor [.agg [.int .i64 i, .int .i64 o, .row false 4 (l.map insv)]] = some (.agg [.int .i64 0, .row true 1 ((regs0 i o l).map iv)]) := by
  intro i o l hc1
  refine kgr_eq (fun xs0 rr r2 h h2 => ?_) ⟨i, o, l, hc1, rfl, rfl⟩
  obtain ⟨i1, o1, l1, _, e1, rfl⟩ := h; obtain ⟨i2, o2, l2, _, e2, rfl⟩ := h2
  rw [e1] at e2
  simp only [List.cons.injEq, A.int.injEq, A.bool.injEq, A.agg.injEq, A.row.injEq, A.fn.injEq, A.rp.injEq, insv_inj, iv_inj, true_and, and_true] at e2
  simp [e2]

end Go.Proofs.Yticgaflgbljhlaa.Ab
