/- Walks of functions of the program: what each answers, for all arguments that meet its conditions. -/
import Derived.Test.YticgaflgbljhlaaFwGf
import Derived.Test.YticgaflgbljhlaaAbP42
namespace Go.Proofs.Yticgaflgbljhlaa.Ab
open Go
set_option linter.unusedVariables false
set_option linter.unusedSimpArgs false
set_option maxHeartbeats 4000000
theorem ok_implRunProcess : Kn.ok Try.prog (kof [(123, q_implIsProgram), (124, q_containsStr), (126, q_implAlone)]) := kof_cons k_implIsProgram (kof_cons k_containsStr (kof_cons k_implAlone ((kof_nil _))))
theorem implRunProcess_ac (i : Int) (o : Int) (l : List I4) (ins : List (List Int)) (fuel : Int) (hc1 : l.length < 4398046511104) (hc2 : ins.length < 5864062014805) (hc3 : LW ins) : AC Try.prog 59 [.agg [.int .i64 i, .int .i64 o, .row false 4 (l.map insv)], .row false 1 (ins.map ivL), .int .i64 fuel] (.tup [.row true 1 ((runO i o l ins fuel).1.map ovL), .row true 1 ((runO i o l ins fuel).2.1.map iv), .int .i64 (runO i o l ins fuel).2.2.1, .bool (runO i o l ins fuel).2.2.2]) := by
  have e_implIsProgram := e_implIsProgram
  have e_containsStr := e_containsStr
  have e_implAlone := e_implAlone
  have hivl := ivL_eq
  have hpov := pureLL_ovL
  have hfou : ∀ x : List (List Int), List.take x.length (List.map ovL x) = List.map ovL x := fun x => List.take_of_length_le (by simp)
  have hfiv : ∀ x : List Int, List.take x.length (List.map iv x) = List.map iv x := fun x => List.take_of_length_le (by simp)
  refine AC.of tab_ok Try.func59 rfl (Nat.le_of_ble_eq_true rfl) fun w0 S0 => ?_
  change G _ _ ⟨[(0, .agg [.int .i64 i, .int .i64 o, .row false 4 (l.map insv)]), (1, .row false 1 (ins.map ivL)), (2, .int .i64 fuel)], [], 48⟩
  apply G.seq
  refine G.rg tab_ok ok_implRunProcess (hk := ?_)
  apply G.seq
  apply G.seq
  refine G.rg tab_ok ok_implRunProcess (hk := ?_)
  refine G.fg [1, 2, 3, 35] (hk := ?_)
  refine G.iff (h1 := fun h1 => ?_) (h2 := fun h1 => ?_)
  · try simp only [decide_eq_true_eq, decide_eq_false_iff_not, Bool.and_eq_true, Bool.and_eq_false_imp, Bool.or_eq_true, Bool.or_eq_false_iff, Bool.not_eq_true', Bool.not_eq_false', bne_iff_ne, beq_iff_eq, bne_eq_false_iff_eq, beq_eq_false_iff_ne, ne_eq, Int.ofNat_lt, Int.not_lt, Int.not_le, Int.ofNat_le, Nat.not_lt, Nat.not_le, gt_iff_lt, ge_iff_le] at h1
    apply G.seq
    refine G.rg tab_ok ok_implRunProcess (hk := ?_)
    refine G.nilRow 6 1 rfl ?_
    refine G.nilRow 7 1 rfl ?_
    refine G.fin tab_ok (hr := ?_)
    have hb : runBad i o l ins fuel = true := by
      cases hb : runBad i o l ins fuel with
      | true => rfl
      | false =>
        exfalso
        obtain ⟨g1, g2, g3, g4, g5⟩ := runBad_false hb
        have g6 := g2.il
        rcases h1 with ((h1 | h1) | h1) | h1
        · rw [g1] at h1; simp [g6] at h1
        · omega
        · omega
        · rw [g5] at h1; cases h1
    simp only [oneOrTup, runO, hb, if_true]
    rfl
  · try simp only [decide_eq_true_eq, decide_eq_false_iff_not, Bool.and_eq_true, Bool.and_eq_false_imp, Bool.or_eq_true, Bool.or_eq_false_iff, Bool.not_eq_true', Bool.not_eq_false', bne_iff_ne, beq_iff_eq, bne_eq_false_iff_eq, beq_eq_false_iff_ne, ne_eq, Int.ofNat_lt, Int.not_lt, Int.not_le, Int.ofNat_le, Nat.not_lt, Nat.not_le, gt_iff_lt, ge_iff_le] at h1
    apply G.skip
    apply G.seq
    have hbad : runBad i o l ins fuel = false := by
      obtain ⟨⟨⟨k0, k3⟩, k4⟩, k5⟩ := h1
      have k1 : progOk i o l = true := by cases hp : progOk i o l with
        | true => rfl
        | false => rw [hp] at k0; simp at k0
      have k2 : (ins.length : Int) = i := by rw [k1] at k0; simpa using k0
      unfold runBad
      rw [k1, k5]
      simp [k2]
      omega
    obtain ⟨g1, g2, g3, g4, g5⟩ := runBad_false hbad
    refine G.rg tab_ok ok_implRunProcess (hk := ?_)
    apply G.seq
    refine G.rg tab_ok ok_implRunProcess (hk := ?_)
    refine G.fin tab_ok (hr := ?_)
    have hb : runBad i o l ins fuel = false := hbad
    simp only [hfou, hfiv, oneOrTup, runO, hb, Bool.false_eq_true, if_false]
end Go.Proofs.Yticgaflgbljhlaa.Ab
