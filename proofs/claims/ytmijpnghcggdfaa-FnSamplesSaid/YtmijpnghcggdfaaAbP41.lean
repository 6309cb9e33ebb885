/- Walks of functions of the program: what each answers, for all arguments that meet its conditions. -/
import Derived.Test.YtmijpnghcggdfaaAbNst
import Derived.Test.YtmijpnghcggdfaaAbP32
import Derived.Test.YtmijpnghcggdfaaAbP8
namespace Go.Proofs.Ytmijpnghcggdfaa.Ab
open Go
set_option linter.unusedVariables false
set_option linter.unusedSimpArgs false
set_option maxHeartbeats 4000000

theorem ok_implAlone : Kn.ok Try.prog (kof [(66, q_implWant), (38, q_implNewActor)]) := kof_cons k_implWant (kof_cons k_implNewActor ((kof_nil _)))
theorem en_implStep : Enters Try.prog 69 := enters_of Try.func69 rfl rfl
theorem implAlone_ac (i : Int) (o : Int) (l : List I4) (ins : List (List Int)) (fuel : Int) (hc1 : progOk i o l = true) (hc2 : IW i ins) (hc3 : 0 ≤ fuel) (hc4 : fuel ≤ 3000) : AC Try.prog 80 [.agg [.int .i64 i, .int .i64 o, .row false 4 (l.map insv)], .row false 1 (ins.map ivL), .int .i64 fuel] (.tup [.row true 1 ((goP l ins fuel.toNat (ps0 i o)).1.outs.map ovL), .row true 1 ((goP l ins fuel.toNat (ps0 i o)).1.used.map iv), .int .i64 (goP l ins fuel.toNat (ps0 i o)).2.1, .int .i64 (goP l ins fuel.toNat (ps0 i o)).2.2]) := by
  have e_implWant := e_implWant
  have e_implNewActor := e_implNewActor
  have hpo := hc1
  simp only [progOk, inR, Bool.and_eq_true, decide_eq_true_eq] at hpo
  obtain ⟨⟨⟨hi0, ho0⟩, hl0⟩, _⟩ := hpo
  have hl24 : l.length ≤ 24 := by omega
  have hivl := ivL_eq
  have hpov := pureLL_ovL
  have hpiv := pureLL_ivL
  have hil := hc2.il
  generalize hR : goP l ins fuel.toNat (ps0 i o) = R
  have hb1 : i ≤ 4611686018427387904 := by omega
  have hb2 : 8 * i ≤ 140737488355328 := by omega
  have hb3 : o ≤ 4611686018427387904 := by omega
  have hb4 : 24 * o ≤ 140737488355328 := by omega
  have hlb : l.length < 4398046511104 := by omega
  have hr0 : regs0 i o l = [0, 0, 0, 0] := by unfold regs0; rw [hc1]; rfl
  have hft : (false == true) = false := rfl
  have htf : (true == false) = false := rfl
  refine AC.of tab_ok Try.func80 rfl (Nat.le_of_ble_eq_true rfl) fun w0 S0 => ?_
  change G _ _ ⟨[(0, .agg [.int .i64 i, .int .i64 o, .row false 4 (l.map insv)]), (1, .row false 1 (ins.map ivL)), (2, .int .i64 fuel)], [], 106⟩
  apply G.seq
  refine G.rg tab_ok ok_implAlone (hk := ?_)
  apply G.seq
  apply G.joinR
  · intro hk
    refine G.drawL (c := ⟨Try.prog, tab, _, _, _, _, _⟩) mixed tab_ok ok_implAlone 12 ?_ rfl
    refine AnyL.gg (n := 9) 3 [0, 2, 5] (h := ?_)
    refine AnyL.tl (n := 8) 3 20 (h := ?_)
    refine AnyL.tl (n := 7) 6 23 (h := ?_)
    refine AnyL.fk4w (n := 6) 1 4 7 8 (k1 := ?_) (k2 := ?_) (k3 := ?_) (k4 := ?_)
    · skip
      refine AnyL.fk3w (n := 5) 4 7 8 (k1 := ?_) (k2 := ?_) (k3 := ?_)
      · skip
        refine AnyL.fk2 (n := 4) 7 8 (k1 := ?_) (k2 := ?_)
        · skip
          refine AnyL.gg (n := 0) 4 [8, 9, 10, 11] (h := ?_)
          exact AnyL.ln [1, 2, 3, 10, 11, 12, 34, 35, 36, 37, 38, 39, 40, 41, 42, 43, 44, 45, 46, 47, 48, 49, 50, 51, 52, 53, 54, 55, 56, 57, 58, 59, 60, 61, 62, 75, 76, 77, 78, 79, 80, 81, 82, 83, 84] (h := hk)
        · skip
          refine AnyL.fk2 (n := 3) 7 9 (k1 := ?_) (k2 := ?_)
          · skip
            refine AnyL.gg (n := 0) 3 [9, 10, 11] (h := ?_)
            exact AnyL.ln [1, 2, 3, 10, 11, 12, 34, 35, 36, 37, 38, 39, 40, 41, 42, 43, 44, 45, 46, 47, 48, 49, 50, 51, 52, 53, 54, 55, 56, 57, 58, 59, 60, 61, 62, 75, 76, 77, 78, 79, 80, 81, 82, 83, 84] (h := hk)
          · skip
            refine AnyL.gg (n := 0) 3 [10, 7, 11] (h := ?_)
            exact AnyL.ln [1, 2, 3, 10, 11, 12, 34, 35, 36, 37, 38, 39, 40, 41, 42, 43, 44, 45, 46, 47, 48, 49, 50, 51, 52, 53, 54, 55, 56, 57, 58, 59, 60, 61, 62, 75, 76, 77, 78, 79, 80, 81, 82, 83, 84] (h := hk)
      · skip
        refine AnyL.fk2 (n := 4) 4 8 (k1 := ?_) (k2 := ?_)
        · skip
          refine AnyL.gg (n := 0) 4 [8, 9, 10, 11] (h := ?_)
          exact AnyL.ln [1, 2, 3, 10, 11, 12, 34, 35, 36, 37, 38, 39, 40, 41, 42, 43, 44, 45, 46, 47, 48, 49, 50, 51, 52, 53, 54, 55, 56, 57, 58, 59, 60, 61, 62, 75, 76, 77, 78, 79, 80, 81, 82, 83, 84] (h := hk)
        · skip
          refine AnyL.fk2 (n := 3) 4 9 (k1 := ?_) (k2 := ?_)
          · skip
            refine AnyL.gg (n := 0) 3 [9, 10, 11] (h := ?_)
            exact AnyL.ln [1, 2, 3, 10, 11, 12, 34, 35, 36, 37, 38, 39, 40, 41, 42, 43, 44, 45, 46, 47, 48, 49, 50, 51, 52, 53, 54, 55, 56, 57, 58, 59, 60, 61, 62, 75, 76, 77, 78, 79, 80, 81, 82, 83, 84] (h := hk)
          · skip
            refine AnyL.gg (n := 0) 3 [4, 10, 11] (h := ?_)
            exact AnyL.ln [1, 2, 3, 10, 11, 12, 34, 35, 36, 37, 38, 39, 40, 41, 42, 43, 44, 45, 46, 47, 48, 49, 50, 51, 52, 53, 54, 55, 56, 57, 58, 59, 60, 61, 62, 75, 76, 77, 78, 79, 80, 81, 82, 83, 84] (h := hk)
      · skip
        refine AnyL.fk3w (n := 4) 4 7 9 (k1 := ?_) (k2 := ?_) (k3 := ?_)
        · skip
          refine AnyL.fk2 (n := 3) 7 9 (k1 := ?_) (k2 := ?_)
          · skip
            refine AnyL.gg (n := 0) 3 [9, 10, 11] (h := ?_)
            exact AnyL.ln [1, 2, 3, 10, 11, 12, 34, 35, 36, 37, 38, 39, 40, 41, 42, 43, 44, 45, 46, 47, 48, 49, 50, 51, 52, 53, 54, 55, 56, 57, 58, 59, 60, 61, 62, 75, 76, 77, 78, 79, 80, 81, 82, 83, 84] (h := hk)
          · skip
            refine AnyL.gg (n := 0) 3 [10, 7, 11] (h := ?_)
            exact AnyL.ln [1, 2, 3, 10, 11, 12, 34, 35, 36, 37, 38, 39, 40, 41, 42, 43, 44, 45, 46, 47, 48, 49, 50, 51, 52, 53, 54, 55, 56, 57, 58, 59, 60, 61, 62, 75, 76, 77, 78, 79, 80, 81, 82, 83, 84] (h := hk)
        · skip
          refine AnyL.fk2 (n := 3) 4 9 (k1 := ?_) (k2 := ?_)
          · skip
            refine AnyL.gg (n := 0) 3 [9, 10, 11] (h := ?_)
            exact AnyL.ln [1, 2, 3, 10, 11, 12, 34, 35, 36, 37, 38, 39, 40, 41, 42, 43, 44, 45, 46, 47, 48, 49, 50, 51, 52, 53, 54, 55, 56, 57, 58, 59, 60, 61, 62, 75, 76, 77, 78, 79, 80, 81, 82, 83, 84] (h := hk)
          · skip
            refine AnyL.gg (n := 0) 3 [4, 10, 11] (h := ?_)
            exact AnyL.ln [1, 2, 3, 10, 11, 12, 34, 35, 36, 37, 38, 39, 40, 41, 42, 43, 44, 45, 46, 47, 48, 49, 50, 51, 52, 53, 54, 55, 56, 57, 58, 59, 60, 61, 62, 75, 76, 77, 78, 79, 80, 81, 82, 83, 84] (h := hk)
        · skip
          refine AnyL.fk2 (n := 3) 4 7 (k1 := ?_) (k2 := ?_)
          · skip
            refine AnyL.gg (n := 0) 3 [10, 7, 11] (h := ?_)
            exact AnyL.ln [1, 2, 3, 10, 11, 12, 34, 35, 36, 37, 38, 39, 40, 41, 42, 43, 44, 45, 46, 47, 48, 49, 50, 51, 52, 53, 54, 55, 56, 57, 58, 59, 60, 61, 62, 75, 76, 77, 78, 79, 80, 81, 82, 83, 84] (h := hk)
          · skip
            refine AnyL.gg (n := 0) 3 [4, 10, 11] (h := ?_)
            exact AnyL.ln [1, 2, 3, 10, 11, 12, 34, 35, 36, 37, 38, 39, 40, 41, 42, 43, 44, 45, 46, 47, 48, 49, 50, 51, 52, 53, 54, 55, 56, 57, 58, 59, 60, 61, 62, 75, 76, 77, 78, 79, 80, 81, 82, 83, 84] (h := hk)
    · skip
      refine AnyL.fk3w (n := 5) 1 7 8 (k1 := ?_) (k2 := ?_) (k3 := ?_)
      · skip
        refine AnyL.fk2 (n := 4) 7 8 (k1 := ?_) (k2 := ?_)
        · skip
          refine AnyL.gg (n := 0) 4 [8, 9, 10, 11] (h := ?_)
          exact AnyL.ln [1, 2, 3, 10, 11, 12, 34, 35, 36, 37, 38, 39, 40, 41, 42, 43, 44, 45, 46, 47, 48, 49, 50, 51, 52, 53, 54, 55, 56, 57, 58, 59, 60, 61, 62, 75, 76, 77, 78, 79, 80, 81, 82, 83, 84] (h := hk)
        · skip
          refine AnyL.fk2 (n := 3) 7 9 (k1 := ?_) (k2 := ?_)
          · skip
            refine AnyL.gg (n := 0) 3 [9, 10, 11] (h := ?_)
            exact AnyL.ln [1, 2, 3, 10, 11, 12, 34, 35, 36, 37, 38, 39, 40, 41, 42, 43, 44, 45, 46, 47, 48, 49, 50, 51, 52, 53, 54, 55, 56, 57, 58, 59, 60, 61, 62, 75, 76, 77, 78, 79, 80, 81, 82, 83, 84] (h := hk)
          · skip
            refine AnyL.gg (n := 0) 3 [10, 7, 11] (h := ?_)
            exact AnyL.ln [1, 2, 3, 10, 11, 12, 34, 35, 36, 37, 38, 39, 40, 41, 42, 43, 44, 45, 46, 47, 48, 49, 50, 51, 52, 53, 54, 55, 56, 57, 58, 59, 60, 61, 62, 75, 76, 77, 78, 79, 80, 81, 82, 83, 84] (h := hk)
      · skip
        refine AnyL.fk2 (n := 4) 1 8 (k1 := ?_) (k2 := ?_)
        · skip
          refine AnyL.gg (n := 0) 4 [8, 9, 10, 11] (h := ?_)
          exact AnyL.ln [1, 2, 3, 10, 11, 12, 34, 35, 36, 37, 38, 39, 40, 41, 42, 43, 44, 45, 46, 47, 48, 49, 50, 51, 52, 53, 54, 55, 56, 57, 58, 59, 60, 61, 62, 75, 76, 77, 78, 79, 80, 81, 82, 83, 84] (h := hk)
        · skip
          refine AnyL.gg (n := 0) 4 [1, 9, 10, 11] (h := ?_)
          exact AnyL.ln [1, 2, 3, 10, 11, 12, 34, 35, 36, 37, 38, 39, 40, 41, 42, 43, 44, 45, 46, 47, 48, 49, 50, 51, 52, 53, 54, 55, 56, 57, 58, 59, 60, 61, 62, 75, 76, 77, 78, 79, 80, 81, 82, 83, 84] (h := hk)
      · skip
        refine AnyL.fk2 (n := 4) 1 7 (k1 := ?_) (k2 := ?_)
        · skip
          refine AnyL.fk2 (n := 3) 7 9 (k1 := ?_) (k2 := ?_)
          · skip
            refine AnyL.gg (n := 0) 3 [9, 10, 11] (h := ?_)
            exact AnyL.ln [1, 2, 3, 10, 11, 12, 34, 35, 36, 37, 38, 39, 40, 41, 42, 43, 44, 45, 46, 47, 48, 49, 50, 51, 52, 53, 54, 55, 56, 57, 58, 59, 60, 61, 62, 75, 76, 77, 78, 79, 80, 81, 82, 83, 84] (h := hk)
          · skip
            refine AnyL.gg (n := 0) 3 [10, 7, 11] (h := ?_)
            exact AnyL.ln [1, 2, 3, 10, 11, 12, 34, 35, 36, 37, 38, 39, 40, 41, 42, 43, 44, 45, 46, 47, 48, 49, 50, 51, 52, 53, 54, 55, 56, 57, 58, 59, 60, 61, 62, 75, 76, 77, 78, 79, 80, 81, 82, 83, 84] (h := hk)
        · skip
          refine AnyL.gg (n := 0) 4 [1, 9, 10, 11] (h := ?_)
          exact AnyL.ln [1, 2, 3, 10, 11, 12, 34, 35, 36, 37, 38, 39, 40, 41, 42, 43, 44, 45, 46, 47, 48, 49, 50, 51, 52, 53, 54, 55, 56, 57, 58, 59, 60, 61, 62, 75, 76, 77, 78, 79, 80, 81, 82, 83, 84] (h := hk)
    · skip
      refine AnyL.fk3w (n := 5) 1 4 8 (k1 := ?_) (k2 := ?_) (k3 := ?_)
      · skip
        refine AnyL.fk2 (n := 4) 4 8 (k1 := ?_) (k2 := ?_)
        · skip
          refine AnyL.gg (n := 0) 4 [8, 9, 10, 11] (h := ?_)
          exact AnyL.ln [1, 2, 3, 10, 11, 12, 34, 35, 36, 37, 38, 39, 40, 41, 42, 43, 44, 45, 46, 47, 48, 49, 50, 51, 52, 53, 54, 55, 56, 57, 58, 59, 60, 61, 62, 75, 76, 77, 78, 79, 80, 81, 82, 83, 84] (h := hk)
        · skip
          refine AnyL.fk2 (n := 3) 4 9 (k1 := ?_) (k2 := ?_)
          · skip
            refine AnyL.gg (n := 0) 3 [9, 10, 11] (h := ?_)
            exact AnyL.ln [1, 2, 3, 10, 11, 12, 34, 35, 36, 37, 38, 39, 40, 41, 42, 43, 44, 45, 46, 47, 48, 49, 50, 51, 52, 53, 54, 55, 56, 57, 58, 59, 60, 61, 62, 75, 76, 77, 78, 79, 80, 81, 82, 83, 84] (h := hk)
          · skip
            refine AnyL.gg (n := 0) 3 [4, 10, 11] (h := ?_)
            exact AnyL.ln [1, 2, 3, 10, 11, 12, 34, 35, 36, 37, 38, 39, 40, 41, 42, 43, 44, 45, 46, 47, 48, 49, 50, 51, 52, 53, 54, 55, 56, 57, 58, 59, 60, 61, 62, 75, 76, 77, 78, 79, 80, 81, 82, 83, 84] (h := hk)
      · skip
        refine AnyL.fk2 (n := 4) 1 8 (k1 := ?_) (k2 := ?_)
        · skip
          refine AnyL.gg (n := 0) 4 [8, 9, 10, 11] (h := ?_)
          exact AnyL.ln [1, 2, 3, 10, 11, 12, 34, 35, 36, 37, 38, 39, 40, 41, 42, 43, 44, 45, 46, 47, 48, 49, 50, 51, 52, 53, 54, 55, 56, 57, 58, 59, 60, 61, 62, 75, 76, 77, 78, 79, 80, 81, 82, 83, 84] (h := hk)
        · skip
          refine AnyL.gg (n := 0) 4 [1, 9, 10, 11] (h := ?_)
          exact AnyL.ln [1, 2, 3, 10, 11, 12, 34, 35, 36, 37, 38, 39, 40, 41, 42, 43, 44, 45, 46, 47, 48, 49, 50, 51, 52, 53, 54, 55, 56, 57, 58, 59, 60, 61, 62, 75, 76, 77, 78, 79, 80, 81, 82, 83, 84] (h := hk)
      · skip
        refine AnyL.fk2 (n := 4) 1 4 (k1 := ?_) (k2 := ?_)
        · skip
          refine AnyL.fk2 (n := 3) 4 9 (k1 := ?_) (k2 := ?_)
          · skip
            refine AnyL.gg (n := 0) 3 [9, 10, 11] (h := ?_)
            exact AnyL.ln [1, 2, 3, 10, 11, 12, 34, 35, 36, 37, 38, 39, 40, 41, 42, 43, 44, 45, 46, 47, 48, 49, 50, 51, 52, 53, 54, 55, 56, 57, 58, 59, 60, 61, 62, 75, 76, 77, 78, 79, 80, 81, 82, 83, 84] (h := hk)
          · skip
            refine AnyL.gg (n := 0) 3 [4, 10, 11] (h := ?_)
            exact AnyL.ln [1, 2, 3, 10, 11, 12, 34, 35, 36, 37, 38, 39, 40, 41, 42, 43, 44, 45, 46, 47, 48, 49, 50, 51, 52, 53, 54, 55, 56, 57, 58, 59, 60, 61, 62, 75, 76, 77, 78, 79, 80, 81, 82, 83, 84] (h := hk)
        · skip
          refine AnyL.gg (n := 0) 4 [1, 9, 10, 11] (h := ?_)
          exact AnyL.ln [1, 2, 3, 10, 11, 12, 34, 35, 36, 37, 38, 39, 40, 41, 42, 43, 44, 45, 46, 47, 48, 49, 50, 51, 52, 53, 54, 55, 56, 57, 58, 59, 60, 61, 62, 75, 76, 77, 78, 79, 80, 81, 82, 83, 84] (h := hk)
    · skip
      refine AnyL.fk3w (n := 5) 1 4 7 (k1 := ?_) (k2 := ?_) (k3 := ?_)
      · skip
        refine AnyL.fk3w (n := 4) 4 7 9 (k1 := ?_) (k2 := ?_) (k3 := ?_)
        · skip
          refine AnyL.fk2 (n := 3) 7 9 (k1 := ?_) (k2 := ?_)
          · skip
            refine AnyL.gg (n := 0) 3 [9, 10, 11] (h := ?_)
            exact AnyL.ln [1, 2, 3, 10, 11, 12, 34, 35, 36, 37, 38, 39, 40, 41, 42, 43, 44, 45, 46, 47, 48, 49, 50, 51, 52, 53, 54, 55, 56, 57, 58, 59, 60, 61, 62, 75, 76, 77, 78, 79, 80, 81, 82, 83, 84] (h := hk)
          · skip
            refine AnyL.gg (n := 0) 3 [10, 7, 11] (h := ?_)
            exact AnyL.ln [1, 2, 3, 10, 11, 12, 34, 35, 36, 37, 38, 39, 40, 41, 42, 43, 44, 45, 46, 47, 48, 49, 50, 51, 52, 53, 54, 55, 56, 57, 58, 59, 60, 61, 62, 75, 76, 77, 78, 79, 80, 81, 82, 83, 84] (h := hk)
        · skip
          refine AnyL.fk2 (n := 3) 4 9 (k1 := ?_) (k2 := ?_)
          · skip
            refine AnyL.gg (n := 0) 3 [9, 10, 11] (h := ?_)
            exact AnyL.ln [1, 2, 3, 10, 11, 12, 34, 35, 36, 37, 38, 39, 40, 41, 42, 43, 44, 45, 46, 47, 48, 49, 50, 51, 52, 53, 54, 55, 56, 57, 58, 59, 60, 61, 62, 75, 76, 77, 78, 79, 80, 81, 82, 83, 84] (h := hk)
          · skip
            refine AnyL.gg (n := 0) 3 [4, 10, 11] (h := ?_)
            exact AnyL.ln [1, 2, 3, 10, 11, 12, 34, 35, 36, 37, 38, 39, 40, 41, 42, 43, 44, 45, 46, 47, 48, 49, 50, 51, 52, 53, 54, 55, 56, 57, 58, 59, 60, 61, 62, 75, 76, 77, 78, 79, 80, 81, 82, 83, 84] (h := hk)
        · skip
          refine AnyL.fk2 (n := 3) 4 7 (k1 := ?_) (k2 := ?_)
          · skip
            refine AnyL.gg (n := 0) 3 [10, 7, 11] (h := ?_)
            exact AnyL.ln [1, 2, 3, 10, 11, 12, 34, 35, 36, 37, 38, 39, 40, 41, 42, 43, 44, 45, 46, 47, 48, 49, 50, 51, 52, 53, 54, 55, 56, 57, 58, 59, 60, 61, 62, 75, 76, 77, 78, 79, 80, 81, 82, 83, 84] (h := hk)
          · skip
            refine AnyL.gg (n := 0) 3 [4, 10, 11] (h := ?_)
            exact AnyL.ln [1, 2, 3, 10, 11, 12, 34, 35, 36, 37, 38, 39, 40, 41, 42, 43, 44, 45, 46, 47, 48, 49, 50, 51, 52, 53, 54, 55, 56, 57, 58, 59, 60, 61, 62, 75, 76, 77, 78, 79, 80, 81, 82, 83, 84] (h := hk)
      · skip
        refine AnyL.fk2 (n := 4) 1 7 (k1 := ?_) (k2 := ?_)
        · skip
          refine AnyL.fk2 (n := 3) 7 9 (k1 := ?_) (k2 := ?_)
          · skip
            refine AnyL.gg (n := 0) 3 [9, 10, 11] (h := ?_)
            exact AnyL.ln [1, 2, 3, 10, 11, 12, 34, 35, 36, 37, 38, 39, 40, 41, 42, 43, 44, 45, 46, 47, 48, 49, 50, 51, 52, 53, 54, 55, 56, 57, 58, 59, 60, 61, 62, 75, 76, 77, 78, 79, 80, 81, 82, 83, 84] (h := hk)
          · skip
            refine AnyL.gg (n := 0) 3 [10, 7, 11] (h := ?_)
            exact AnyL.ln [1, 2, 3, 10, 11, 12, 34, 35, 36, 37, 38, 39, 40, 41, 42, 43, 44, 45, 46, 47, 48, 49, 50, 51, 52, 53, 54, 55, 56, 57, 58, 59, 60, 61, 62, 75, 76, 77, 78, 79, 80, 81, 82, 83, 84] (h := hk)
        · skip
          refine AnyL.gg (n := 0) 4 [1, 9, 10, 11] (h := ?_)
          exact AnyL.ln [1, 2, 3, 10, 11, 12, 34, 35, 36, 37, 38, 39, 40, 41, 42, 43, 44, 45, 46, 47, 48, 49, 50, 51, 52, 53, 54, 55, 56, 57, 58, 59, 60, 61, 62, 75, 76, 77, 78, 79, 80, 81, 82, 83, 84] (h := hk)
      · skip
        refine AnyL.fk2 (n := 4) 1 4 (k1 := ?_) (k2 := ?_)
        · skip
          refine AnyL.fk2 (n := 3) 4 9 (k1 := ?_) (k2 := ?_)
          · skip
            refine AnyL.gg (n := 0) 3 [9, 10, 11] (h := ?_)
            exact AnyL.ln [1, 2, 3, 10, 11, 12, 34, 35, 36, 37, 38, 39, 40, 41, 42, 43, 44, 45, 46, 47, 48, 49, 50, 51, 52, 53, 54, 55, 56, 57, 58, 59, 60, 61, 62, 75, 76, 77, 78, 79, 80, 81, 82, 83, 84] (h := hk)
          · skip
            refine AnyL.gg (n := 0) 3 [4, 10, 11] (h := ?_)
            exact AnyL.ln [1, 2, 3, 10, 11, 12, 34, 35, 36, 37, 38, 39, 40, 41, 42, 43, 44, 45, 46, 47, 48, 49, 50, 51, 52, 53, 54, 55, 56, 57, 58, 59, 60, 61, 62, 75, 76, 77, 78, 79, 80, 81, 82, 83, 84] (h := hk)
        · skip
          refine AnyL.gg (n := 0) 4 [1, 9, 10, 11] (h := ?_)
          exact AnyL.ln [1, 2, 3, 10, 11, 12, 34, 35, 36, 37, 38, 39, 40, 41, 42, 43, 44, 45, 46, 47, 48, 49, 50, 51, 52, 53, 54, 55, 56, 57, 58, 59, 60, 61, 62, 75, 76, 77, 78, 79, 80, 81, 82, 83, 84] (h := hk)
  refine G.nilBlk 2 o.toNat rfl ?_
  apply G.seq
  refine G.rg tab_ok ok_implAlone (hk := ?_)
  apply G.block
  refine G.nm [1, 2, 3, 10, 11, 12, 13] (h := ?_)
  refine G.loopX (fun x : PS × Nat => ⟨[(1, .row false 1 (ins.map ivL)), (2, .int .i64 fuel), (3, .ptr 0 0 0), (10, .ptr 1 0 0), (11, .sl 2 0 x.1.outs.length), (12, .sl 3 0 x.1.used.length), (13, .int .i64 (fuel - (x.2 : Nat)))], [some (3, [[.int .i64 i, .int .i64 o, .row false 4 (l.map insv)]]), some (2, [[.int .i64 x.1.pc, .sl 4 0 x.1.rs.length]]), some (1, x.1.outs.map ovL), some (1, x.1.used.map iv), some (1, x.1.rs.map iv)], 106⟩) (fun x => PW i o l ins x.1 ∧ goP l ins x.2 x.1 = R ∧ (x.2 : Int) ≤ fuel) (fun x => x.2) ((ps0 i o, fuel.toNat)) (⟨PW.init hc1 hc2, hR, by simp only; omega⟩) (by simp [ps0, nilsL, iv]; omega) ?_
  intro x hx J hJ
  obtain ⟨s, n⟩ := x
  simp only at hx ⊢
  obtain ⟨hw, hg, hn⟩ := hx
  obtain ⟨hpc0, hpc1⟩ := hw.pc0
  have hul := hw.ul
  have hol := hw.ol
  obtain ⟨p, hp⟩ : ∃ p, (wantK l s.pc).2 = p := ⟨_, rfl⟩
  have hfou : ∀ x : List (List Int), List.take x.length (List.map ovL x) = List.map ovL x := fun x => List.take_of_length_le (by simp)
  have hcase : (wantK l s.pc).1 = 0 ∨ (wantK l s.pc).1 = 1 ∨ ((wantK l s.pc).1 = 2 ∧ s.used.getD p.toNat default = ((ins.getD p.toNat default).length : Int)) ∨ ((wantK l s.pc).1 = 2 ∧ ¬ s.used.getD p.toNat default = ((ins.getD p.toNat default).length : Int)) ∨
      ((wantK l s.pc).1 = 3 ∧ (s.outs.getD p.toNat default).length = 400) ∨ ((wantK l s.pc).1 = 3 ∧ ¬ (s.outs.getD p.toNat default).length = 400) := by
    rcases wantK_cases l s.pc with h | h | h | h
    · exact .inl h
    · exact .inr (.inl h)
    · by_cases e : s.used.getD p.toNat default = ((ins.getD p.toNat default).length : Int)
      · exact .inr (.inr (.inl ⟨h, e⟩))
      · exact .inr (.inr (.inr (.inl ⟨h, e⟩)))
    · by_cases e : (s.outs.getD p.toNat default).length = 400
      · exact .inr (.inr (.inr (.inr (.inl ⟨h, e⟩))))
      · exact .inr (.inr (.inr (.inr (.inr ⟨h, e⟩))))
  rcases hcase with c0 | c0 | ⟨c0, c1⟩ | ⟨c0, c1⟩ | ⟨c0, c1⟩ | ⟨c0, c1⟩
  · skip
    have hst : stopP l ins s = true := by simp [stopP, wP, c0]
    
    apply G.seq
    apply G.block
    apply G.seq
    refine G.rg tab_ok ok_implAlone (hk := ?_)
    apply G.seq
    apply G.seq
    refine G.dr mixed tab_ok ok_implAlone [0, 1, 2, 3, 4, 5, 6, 7, 8, 9, 10, 11, 12, 13, 14, 15, 16, 17, 18, 19, 20, 21, 22, 23, 24, 25, 26, 27, 28, 29] (hk := ?_)
    refine G.iffT (h1 := ?_)
    apply G.seq
    refine G.rg tab_ok ok_implAlone (hk := ?_)
    refine G.fin tab_ok (hr := ?_)
    simp only [hfou, oneOrTup]
    rw [← hg, goP_stop hst]
    simp only [wP, c0, hp]
  · skip
    have hst : stopP l ins s = false := by simp [stopP, wP, c0]
    have hn0 : ¬ (wP l s).1 = 0 := by show ¬ (wantK l s.pc).1 = 0; rw [c0]; decide
    obtain ⟨hreg, hop⟩ := hw.reg hc1 hn0
    have hlt := hw.lt hn0
    have hreg2 : RegOk (l.getD s.pc.toNat default) s.rs := hreg
    
    apply G.seq
    apply G.block
    apply G.seq
    refine G.rg tab_ok ok_implAlone (hk := ?_)
    apply G.seq
    apply G.seq
    refine G.dr mixed tab_ok ok_implAlone [0, 1, 2, 3, 4, 5, 6, 7, 8, 9, 10, 11, 12, 13, 14, 15, 16, 17, 18, 19, 20, 21, 22, 23, 24, 25, 26, 27, 28, 29] (hk := ?_)
    refine G.iffF (h2 := ?_)
    apply G.skip
    apply G.seq
    apply G.seq
    refine G.rg tab_ok ok_implAlone (hk := ?_)
    refine G.fg [1, 2, 3, 10, 11, 12, 13, 14, 15, 70, 75, 76, 77, 78, 79, 80, 81, 82, 83, 84] (hk := ?_)
    refine G.iff (h1 := fun h3 => ?_) (h2 := fun h3 => ?_)
    · try simp only [decide_eq_true_eq, decide_eq_false_iff_not, Bool.and_eq_true, Bool.and_eq_false_imp, Bool.or_eq_true, Bool.or_eq_false_iff, Bool.not_eq_true', Bool.not_eq_false', bne_iff_ne, beq_iff_eq, bne_eq_false_iff_eq, beq_eq_false_iff_ne, ne_eq, Int.ofNat_lt, Int.not_lt, Int.not_le, Int.ofNat_le, Nat.not_lt, Nat.not_le, gt_iff_lt, ge_iff_le] at h3
      apply G.seq
      refine G.rg tab_ok ok_implAlone (hk := ?_)
      refine G.fin tab_ok (hr := ?_)
      obtain rfl : n = 0 := by omega
      simp only [hfou, oneOrTup]
      rw [← hg, goP_zero hst]
    · try simp only [decide_eq_true_eq, decide_eq_false_iff_not, Bool.and_eq_true, Bool.and_eq_false_imp, Bool.or_eq_true, Bool.or_eq_false_iff, Bool.not_eq_true', Bool.not_eq_false', bne_iff_ne, beq_iff_eq, bne_eq_false_iff_eq, beq_eq_false_iff_ne, ne_eq, Int.ofNat_lt, Int.not_lt, Int.not_le, Int.ofNat_le, Nat.not_lt, Nat.not_le, gt_iff_lt, ge_iff_le] at h3
      apply G.skip
      apply G.seq
      have hn0 : n ≠ 0 := by omega
      have hwn2 : IntKind.i64.wrap (fuel - ((n - 1 : Nat) : Int)) = fuel - ((n - 1 : Nat) : Int) := wrap64 (by omega) (by omega)
      have hn1 : fuel - (n : Int) + 1 = fuel - ((n - 1 : Nat) : Int) := by omega
      have hwn : IntKind.i64.wrap (fuel - (n : Int) + 1) = fuel - (n : Int) + 1 := wrap64 (by omega) (by omega)
      refine G.rg tab_ok ok_implAlone (hk := ?_)
      apply G.seq
      apply G.seq
      refine G.rg tab_ok ok_implAlone (hk := ?_)
      refine G.iffF (h2 := ?_)
      apply G.skip
      apply G.seq
      refine G.rgN 2 tab_ok ok_implAlone (hk := ?_)
      refine G.cf [1, 4] en_implStep (implStep_mc _ i o l s.pc s.rs 0 rfl hpc0 hlt hl24 hreg2) (h := ?_)
      refine G.rgC tab_ok ok_implAlone (hk := ?_)
      apply G.seq
      refine G.rg tab_ok ok_implAlone (hk := ?_)
      refine G.iffF (h2 := ?_)
      apply G.skip
      apply G.blk
      refine G.rg tab_ok ok_implAlone (hk := ?_)
      refine G.nm [1, 2, 3, 10, 11, 12, 13] (h := ?_)
      exact G.upto (hJ (nextP l ins s, n - 1) ⟨hw.next hc1 hc2 hst, goP_pred hst (by omega) hg, by simp only; omega⟩ (by simp only; omega)) (by simp [nextP, wP, xP, tokP, c0, hp, hn1, hwn2, stepRs_len])
  · skip
    have hrd := hw.read hc1 (show (wP l s).1 = 2 from c0)
    simp only [wP, hp] at hrd
    have hq0 : 0 ≤ p := hrd.1
    have hq1 : p < (s.used.length : Int) := by omega
    have hq2 : p.toNat < s.used.length := by omega
    have hq3 : p < (ins.length : Int) := by omega
    have hq4 : p.toNat < ins.length := by omega
    have hub := hw.ub p.toNat hq2
    have hbt : (s.used.getD p.toNat default == (((ins.getD p.toNat default).length : Nat) : Int)) = true := by rw [beq_iff_eq]; exact c1
    have hst : stopP l ins s = true := by rw [stopP_two c0 hp]; exact hbt
    
    apply G.seq
    apply G.block
    apply G.seq
    refine G.rg tab_ok ok_implAlone (hk := ?_)
    apply G.seq
    apply G.seq
    refine G.dr mixed tab_ok ok_implAlone [0, 1, 2, 3, 4, 5, 6, 7, 8, 9, 10, 11, 12, 13, 14, 15, 16, 17, 18, 19, 20, 21, 22, 23, 24, 25, 26, 27, 28, 29] (hk := ?_)
    refine G.iffT (h1 := ?_)
    apply G.seq
    refine G.rg tab_ok ok_implAlone (hk := ?_)
    refine G.fin tab_ok (hr := ?_)
    simp only [hfou, oneOrTup]
    rw [← hg, goP_stop hst]
    simp only [wP, c0, hp]
  · skip
    have hrd := hw.read hc1 (show (wP l s).1 = 2 from c0)
    simp only [wP, hp] at hrd
    have hq0 : 0 ≤ p := hrd.1
    have hq1 : p < (s.used.length : Int) := by omega
    have hq2 : p.toNat < s.used.length := by omega
    have hq3 : p < (ins.length : Int) := by omega
    have hq4 : p.toNat < ins.length := by omega
    have hub := hw.ub p.toNat hq2
    have hbt : (s.used.getD p.toNat default == (((ins.getD p.toNat default).length : Nat) : Int)) = false := by rw [beq_eq_false_iff_ne]; exact c1
    have hst : stopP l ins s = false := by rw [stopP_two c0 hp]; exact hbt
    have hn0 : ¬ (wP l s).1 = 0 := by show ¬ (wantK l s.pc).1 = 0; rw [c0]; decide
    obtain ⟨hreg, hop⟩ := hw.reg hc1 hn0
    have hlt := hw.lt hn0
    have hreg2 : RegOk (l.getD s.pc.toNat default) s.rs := hreg
    have hu0 : 0 ≤ s.used.getD p.toNat default := hub.1
    have hu1 : s.used.getD p.toNat default < ((ins.getD p.toNat default).length : Int) := by have := hub.2; omega
    have hu2 : (s.used.getD p.toNat default).toNat < (ins.getD p.toNat default).length := by omega
    have hsub : (ins.getD p.toNat default).length ≤ 400 := strLen (hc2.it _ (getD_mem hq4))
    have hset : ∀ v : Int, (List.map iv s.used).set p.toNat [.int .i64 v] = List.map iv (s.used.set p.toNat v) := fun v => by rw [List.map_set]; rfl
    have hugt : (List.map iv s.used)[p.toNat]? = some [.int .i64 (s.used.getD p.toNat default)] := by simp [hq2, iv]
    have hwu : IntKind.i64.wrap (s.used.getD p.toNat default + 1) = s.used.getD p.toNat default + 1 := wrap64 (by omega) (by omega)
    
    apply G.seq
    apply G.block
    apply G.seq
    refine G.rg tab_ok ok_implAlone (hk := ?_)
    apply G.seq
    apply G.seq
    refine G.dr mixed tab_ok ok_implAlone [0, 1, 2, 3, 4, 5, 6, 7, 8, 9, 10, 11, 12, 13, 14, 15, 16, 17, 18, 19, 20, 21, 22, 23, 24, 25, 26, 27, 28, 29] (hk := ?_)
    refine G.iffF (h2 := ?_)
    apply G.skip
    apply G.seq
    apply G.seq
    refine G.rg tab_ok ok_implAlone (hk := ?_)
    refine G.fg [1, 2, 3, 10, 11, 12, 13, 14, 15, 70, 75, 76, 77, 78, 79, 80, 81, 82, 83, 84] (hk := ?_)
    refine G.iff (h1 := fun h8 => ?_) (h2 := fun h8 => ?_)
    · try simp only [decide_eq_true_eq, decide_eq_false_iff_not, Bool.and_eq_true, Bool.and_eq_false_imp, Bool.or_eq_true, Bool.or_eq_false_iff, Bool.not_eq_true', Bool.not_eq_false', bne_iff_ne, beq_iff_eq, bne_eq_false_iff_eq, beq_eq_false_iff_ne, ne_eq, Int.ofNat_lt, Int.not_lt, Int.not_le, Int.ofNat_le, Nat.not_lt, Nat.not_le, gt_iff_lt, ge_iff_le] at h8
      apply G.seq
      refine G.rg tab_ok ok_implAlone (hk := ?_)
      refine G.fin tab_ok (hr := ?_)
      obtain rfl : n = 0 := by omega
      simp only [hfou, oneOrTup]
      rw [← hg, goP_zero hst]
    · try simp only [decide_eq_true_eq, decide_eq_false_iff_not, Bool.and_eq_true, Bool.and_eq_false_imp, Bool.or_eq_true, Bool.or_eq_false_iff, Bool.not_eq_true', Bool.not_eq_false', bne_iff_ne, beq_iff_eq, bne_eq_false_iff_eq, beq_eq_false_iff_ne, ne_eq, Int.ofNat_lt, Int.not_lt, Int.not_le, Int.ofNat_le, Nat.not_lt, Nat.not_le, gt_iff_lt, ge_iff_le] at h8
      apply G.skip
      apply G.seq
      have hn0 : n ≠ 0 := by omega
      have hwn2 : IntKind.i64.wrap (fuel - ((n - 1 : Nat) : Int)) = fuel - ((n - 1 : Nat) : Int) := wrap64 (by omega) (by omega)
      have hn1 : fuel - (n : Int) + 1 = fuel - ((n - 1 : Nat) : Int) := by omega
      have hwn : IntKind.i64.wrap (fuel - (n : Int) + 1) = fuel - (n : Int) + 1 := wrap64 (by omega) (by omega)
      refine G.rg tab_ok ok_implAlone (hk := ?_)
      apply G.seq
      apply G.seq
      refine G.rg tab_ok ok_implAlone (hk := ?_)
      refine G.iffT (h1 := ?_)
      apply G.seq
      refine G.dr mixed tab_ok ok_implAlone [0, 1, 2, 3, 4, 5, 6, 7, 8, 9, 10] (hk := ?_)
      refine G.rg tab_ok ok_implAlone (hk := ?_)
      apply G.seq
      refine G.rgN 2 tab_ok ok_implAlone (hk := ?_)
      refine G.cf [1, 4] en_implStep (implStep_mc _ i o l s.pc s.rs ((ins.getD p.toNat default).getD (s.used.getD p.toNat default).toNat default) rfl hpc0 hlt hl24 hreg2) (h := ?_)
      refine G.rgC tab_ok ok_implAlone (hk := ?_)
      apply G.seq
      refine G.rg tab_ok ok_implAlone (hk := ?_)
      refine G.iffF (h2 := ?_)
      apply G.skip
      apply G.blk
      refine G.rg tab_ok ok_implAlone (hk := ?_)
      refine G.nm [1, 2, 3, 10, 11, 12, 13] (h := ?_)
      exact G.upto (hJ (nextP l ins s, n - 1) ⟨hw.next hc1 hc2 hst, goP_pred hst (by omega) hg, by simp only; omega⟩ (by simp only; omega)) (by simp [nextP, wP, xP, tokP, c0, hp, hn1, hwn2, stepRs_len])
  · skip
    have hrd := hw.write hc1 (show (wP l s).1 = 3 from c0)
    simp only [wP, hp] at hrd
    have hq0 : 0 ≤ p := hrd.1
    have hq1 : p < (s.outs.length : Int) := by omega
    have hq2 : p.toNat < s.outs.length := by omega
    have hob := hw.ob _ (getD_mem hq2)
    have hget : ∀ a : List A, ((s.outs.map ovL).set p.toNat a)[p.toNat]? = some a := fun a => List.getElem?_set_self (by simpa using hq2)
    have hrdc : ∀ a : A, rdCells ((s.outs.map ovL).set p.toNat [a]) p.toNat 0 1 = some [a] := fun a => by simp [rdCells, hget]
    have hss : ∀ a b : List A, ((s.outs.map ovL).set p.toNat a).set p.toNat b = (s.outs.map ovL).set p.toNat b := fun a b => List.set_set ..
    have hsame : s.outs.set p.toNat (s.outs.getD p.toNat default) = s.outs := by
      rw [List.getD_eq_getElem?_getD, List.getElem?_eq_getElem hq2]
      exact List.set_getElem_self hq2
    have hbt : ((((s.outs.getD p.toNat default).length : Nat) : Int) == 400) = true := by rw [beq_iff_eq]; omega
    have hst : stopP l ins s = true := by rw [stopP_three c0 hp]; exact hbt
    
    apply G.seq
    apply G.block
    apply G.seq
    refine G.rg tab_ok ok_implAlone (hk := ?_)
    apply G.seq
    apply G.seq
    refine G.focusO 2 p.toNat rfl hq2 ?_
    refine G.dr mixed tab_ok ok_implAlone [0, 1, 2, 3, 4, 5, 6, 7, 8, 9, 10, 11, 12, 13, 14, 15, 16, 17, 18, 19, 20, 21, 22, 23, 24, 25, 26, 27, 28, 29] (hk := ?_)
    refine G.iffT (h1 := ?_)
    apply G.seq
    refine G.unfocusO 2 p.toNat 5 rfl rfl (by decide) c1.symm hq2 ?_
    rw [hsame]
    refine G.rg tab_ok ok_implAlone (hk := ?_)
    refine G.fin tab_ok (hr := ?_)
    simp only [hfou, oneOrTup]
    rw [← hg, goP_stop hst]
    simp only [wP, c0, hp]
  · skip
    have hrd := hw.write hc1 (show (wP l s).1 = 3 from c0)
    simp only [wP, hp] at hrd
    have hq0 : 0 ≤ p := hrd.1
    have hq1 : p < (s.outs.length : Int) := by omega
    have hq2 : p.toNat < s.outs.length := by omega
    have hob := hw.ob _ (getD_mem hq2)
    have hget : ∀ a : List A, ((s.outs.map ovL).set p.toNat a)[p.toNat]? = some a := fun a => List.getElem?_set_self (by simpa using hq2)
    have hrdc : ∀ a : A, rdCells ((s.outs.map ovL).set p.toNat [a]) p.toNat 0 1 = some [a] := fun a => by simp [rdCells, hget]
    have hss : ∀ a b : List A, ((s.outs.map ovL).set p.toNat a).set p.toNat b = (s.outs.map ovL).set p.toNat b := fun a b => List.set_set ..
    have hsame : s.outs.set p.toNat (s.outs.getD p.toNat default) = s.outs := by
      rw [List.getD_eq_getElem?_getD, List.getElem?_eq_getElem hq2]
      exact List.set_getElem_self hq2
    have hbt : ((((s.outs.getD p.toNat default).length : Nat) : Int) == 400) = false := by rw [beq_eq_false_iff_ne]; omega
    have hst : stopP l ins s = false := by rw [stopP_three c0 hp]; exact hbt
    have hn0 : ¬ (wP l s).1 = 0 := by show ¬ (wantK l s.pc).1 = 0; rw [c0]; decide
    obtain ⟨hreg, hop⟩ := hw.reg hc1 hn0
    have hlt := hw.lt hn0
    have hreg2 : RegOk (l.getD s.pc.toNat default) s.rs := hreg
    have happ : ∀ v : Int, List.map iv (s.outs.getD p.toNat default) ++ [[.int .i64 v]] = List.map iv (s.outs.getD p.toNat default ++ [v]) := fun v => by simp [iv]
    have hbo1 : (((s.outs.getD p.toNat default).length + 1 : Nat) : Int) ≤ 4611686018427387904 := by omega
    have hbo2 : ((s.outs.getD p.toNat default).length + 1) * 8 ≤ 70368744177664 := by omega
    
    apply G.seq
    apply G.block
    apply G.seq
    refine G.rg tab_ok ok_implAlone (hk := ?_)
    apply G.seq
    apply G.seq
    refine G.focusO 2 p.toNat rfl hq2 ?_
    refine G.dr mixed tab_ok ok_implAlone [0, 1, 2, 3, 4, 5, 6, 7, 8, 9, 10, 11, 12, 13, 14, 15, 16, 17, 18, 19, 20, 21, 22, 23, 24, 25, 26, 27, 28, 29] (hk := ?_)
    refine G.iffF (h2 := ?_)
    apply G.skip
    apply G.seq
    apply G.seq
    refine G.rg tab_ok ok_implAlone (hk := ?_)
    refine G.fg [1, 2, 3, 10, 11, 12, 13, 14, 15, 70, 75, 76, 77, 78, 79, 80, 81, 82, 83, 84] (hk := ?_)
    refine G.iff (h1 := fun h13 => ?_) (h2 := fun h13 => ?_)
    · try simp only [decide_eq_true_eq, decide_eq_false_iff_not, Bool.and_eq_true, Bool.and_eq_false_imp, Bool.or_eq_true, Bool.or_eq_false_iff, Bool.not_eq_true', Bool.not_eq_false', bne_iff_ne, beq_iff_eq, bne_eq_false_iff_eq, beq_eq_false_iff_ne, ne_eq, Int.ofNat_lt, Int.not_lt, Int.not_le, Int.ofNat_le, Nat.not_lt, Nat.not_le, gt_iff_lt, ge_iff_le] at h13
      apply G.seq
      refine G.unfocusO 2 p.toNat 5 rfl rfl (by decide) rfl hq2 ?_
      rw [hsame]
      refine G.rg tab_ok ok_implAlone (hk := ?_)
      refine G.fin tab_ok (hr := ?_)
      obtain rfl : n = 0 := by omega
      simp only [hfou, oneOrTup]
      rw [← hg, goP_zero hst]
    · try simp only [decide_eq_true_eq, decide_eq_false_iff_not, Bool.and_eq_true, Bool.and_eq_false_imp, Bool.or_eq_true, Bool.or_eq_false_iff, Bool.not_eq_true', Bool.not_eq_false', bne_iff_ne, beq_iff_eq, bne_eq_false_iff_eq, beq_eq_false_iff_ne, ne_eq, Int.ofNat_lt, Int.not_lt, Int.not_le, Int.ofNat_le, Nat.not_lt, Nat.not_le, gt_iff_lt, ge_iff_le] at h13
      apply G.skip
      apply G.seq
      have hn0 : n ≠ 0 := by omega
      have hwn2 : IntKind.i64.wrap (fuel - ((n - 1 : Nat) : Int)) = fuel - ((n - 1 : Nat) : Int) := wrap64 (by omega) (by omega)
      have hn1 : fuel - (n : Int) + 1 = fuel - ((n - 1 : Nat) : Int) := by omega
      have hwn : IntKind.i64.wrap (fuel - (n : Int) + 1) = fuel - (n : Int) + 1 := wrap64 (by omega) (by omega)
      refine G.rg tab_ok ok_implAlone (hk := ?_)
      apply G.seq
      apply G.seq
      refine G.rg tab_ok ok_implAlone (hk := ?_)
      refine G.iffF (h2 := ?_)
      apply G.skip
      apply G.seq
      refine G.rgN 2 tab_ok ok_implAlone (hk := ?_)
      refine G.cf [1, 4] en_implStep (implStep_mc _ i o l s.pc s.rs 0 rfl hpc0 hlt hl24 hreg2) (h := ?_)
      refine G.rgC tab_ok ok_implAlone (hk := ?_)
      apply G.seq
      refine G.rg tab_ok ok_implAlone (hk := ?_)
      refine G.iffT (h1 := ?_)
      refine G.rg tab_ok ok_implAlone (hk := ?_)
      refine G.unfocusO 2 p.toNat 7 (r := s.outs.getD p.toNat default ++ [stepW (l.getD s.pc.toNat default) s.rs]) rfl rfl (by decide) (by simp) hq2 ?_
      apply G.blk
      refine G.rg tab_ok ok_implAlone (hk := ?_)
      refine G.nm [1, 2, 3, 10, 11, 12, 13] (h := ?_)
      exact G.upto (hJ (nextP l ins s, n - 1) ⟨hw.next hc1 hc2 hst, goP_pred hst (by omega) hg, by simp only; omega⟩ (by simp only; omega)) (by simp [nextP, wP, xP, tokP, c0, hp, hn1, hwn2, stepRs_len])
def r_implAlone (xs0 : List A) (rr : A) : Prop := ∃ (i : Int) (o : Int) (l : List I4) (ins : List (List Int)) (fuel : Int), (progOk i o l = true) ∧ (IW i ins) ∧ (0 ≤ fuel) ∧ (fuel ≤ 3000) ∧ xs0 = [.agg [.int .i64 i, .int .i64 o, .row false 4 (l.map insv)], .row false 1 (ins.map ivL), .int .i64 fuel] ∧ rr = .tup [.row true 1 ((goP l ins fuel.toNat (ps0 i o)).1.outs.map ovL), .row true 1 ((goP l ins fuel.toNat (ps0 i o)).1.used.map iv), .int .i64 (goP l ins fuel.toNat (ps0 i o)).2.1, .int .i64 (goP l ins fuel.toNat (ps0 i o)).2.2]
noncomputable def q_implAlone : List A → Option A := kgr r_implAlone
theorem k_implAlone : KOk Try.prog (80, q_implAlone) := kgr_ok (enters_of Try.func80 rfl rfl) (by rintro xs0 rr ⟨i, o, l, ins, fuel, hc1, hc2, hc3, hc4, rfl, rfl⟩; exact implAlone_ac i o l ins fuel hc1 hc2 hc3 hc4)
theorem e_implAlone : ∀ (i : Int) (o : Int) (l : List I4) (ins : List (List Int)) (fuel : Int), (progOk i o l = true) → (IW i ins) → (0 ≤ fuel) → (fuel ≤ 3000) → q_implAlone [.agg [.int .i64 i, .int .i64 o, .row false 4 (l.map insv)], .row false 1 (ins.map ivL), .int .i64 fuel] = some (.tup [.row true 1 ((goP l ins fuel.toNat (ps0 i o)).1.outs.map ovL), .row true 1 ((goP l ins fuel.toNat (ps0 i o)).1.used.map iv), .int .i64 (goP l ins fuel.toNat (ps0 i o)).2.1, .int .i64 (goP l ins fuel.toNat (ps0 i o)).2.2]) := by
  intro i o l ins fuel hc1 hc2 hc3 hc4
  refine kgr_eq (fun xs0 rr r2 h h2 => ?_) ⟨i, o, l, ins, fuel, hc1, hc2, hc3, hc4, rfl, rfl⟩
  obtain ⟨i1, o1, l1, ins1, fuel1, _, _, _, _, e1, rfl⟩ := h; obtain ⟨i2, o2, l2, ins2, fuel2, _, _, _, _, e2, rfl⟩ := h2
  rw [e1] at e2
  simp only [List.cons.injEq, A.int.injEq, A.agg.injEq, A.row.injEq, insv_inj, ivL_inj, true_and, and_true] at e2
  obtain ⟨⟨e3, e4, e5⟩, e6, e7⟩ := e2
  subst e3 e4 e5 e6 e7
  rfl

end Go.Proofs.Ytmijpnghcggdfaa.Ab
