/- Walks of functions. -/
import Derived.Test.YtimgfinlbhodhaaFwGf
namespace Go.Proofs.Ytimgfinlbhodhaa.Ab
open Go
set_option linter.unusedVariables false
set_option linter.unusedSimpArgs false
set_option maxHeartbeats 4000000
theorem ok_specRunProcess : Kn.ok Try.prog (kof [(80, q_specIsProgram), (73, q_l1In), (75, q_specIsStream), (81, q_l2Run)]) := kof_cons k_specIsProgram (kof_cons k_l1In (kof_cons k_specIsStream (kof_cons k_l2Run ((kof_nil _)))))
theorem specRunProcess_ac (i : Int) (o : Int) (l : List I4) (ins : List (List Int)) (fuel : Int) (hc1 : l.length < 4398046511104) (hc2 : ins.length < 5864062014805) (hc3 : LW ins) : AC Try.prog 18 [.agg [.int .i64 i, .int .i64 o, .row false 4 (l.map insv)], .row false 1 (ins.map ivL), .int .i64 fuel] (.tup [.row true 1 ((runO i o l ins fuel).1.map ovL), .row true 1 ((runO i o l ins fuel).2.1.map iv), .int .i64 (runO i o l ins fuel).2.2.1, .bool (runO i o l ins fuel).2.2.2]) := by
 have e_specIsProgram := e_specIsProgram
 have e_l1In := e_l1In
 have e_specIsStream := e_specIsStream
 have e_l2Run := e_l2Run
 have hivl := ivL_eq
 have hpov := pureLL_ovL
 have hfou : ∀ x : List (List Int), List.take x.length (List.map ovL x) = List.map ovL x := fun x => List.take_of_length_le (by simp)
 have hfiv : ∀ x : List Int, List.take x.length (List.map iv x) = List.map iv x := fun x => List.take_of_length_le (by simp)
 refine AC.of tab_ok Try.func18 rfl (Nat.le_of_ble_eq_true rfl) fun w0 S0 => ?_
 change G _ _ ⟨[(0, .agg [.int .i64 i, .int .i64 o, .row false 4 (l.map insv)]), (1, .row false 1 (ins.map ivL)), (2, .int .i64 fuel)], [], 53⟩
 apply G.seq
 refine G.rg tab_ok ok_specRunProcess (hk := ?_)
 apply G.seq
 apply G.seq
 refine G.rg tab_ok ok_specRunProcess (hk := ?_)
 refine G.fg [1, 2, 3, 30] (hk := ?_)
 refine G.iff (h1 := fun h1 => ?_) (h2 := fun h1 => ?_)
 ·try simp only [zqz] at h1
  apply G.seq
  refine G.rg tab_ok ok_specRunProcess (hk := ?_)
  refine G.nilRow 6 1 rfl ?_
  refine G.nilRow 7 1 rfl ?_
  refine G.fin tab_ok (hr := ?_)
  have hb : runBad i o l ins fuel = true := by
   cases hb : runBad i o l ins fuel with
   | true => rfl
   | false =>
    exfalso
    obtain ⟨g1, g2, g3, g4, g5⟩ := runBad_false hb
    have g6 := g2.il
    rcases h1 with h1 | h1
    ·rw [g1] at h1; simp [g6] at h1
    ·have := h1 g3; omega
  simp only [oneOrTup, runO, hb, if_true]
  rfl
 ·try simp only [zqz] at h1
  apply G.skip
  apply G.seq
  apply G.seq
  refine G.rg tab_ok ok_specRunProcess (hk := ?_)
  apply G.block
  refine G.cn [1, 2, 3, 31, 32, 33] [0] (h := ?_)
  refine G.loopX (fun j : Nat => ⟨[(1, .row false 1 (ins.map ivL)), (2, .int .i64 fuel), (3, .ptr 0 0 0), (31, .row false 1 (ins.map ivL)), (32, .int .i64 ins.length), (33, .int .i64 j)], [some (3, [[.int .i64 i, .int .i64 o, .row false 4 (l.map insv)]])], 53⟩) (fun j => j ≤ ins.length ∧ ∀ k < j, strOk (ins.getD k default) = true) (fun j => ins.length - j) (0) (⟨Nat.zero_le _, by omega⟩) (by simp) ?_
  intro j hj J hJ
  obtain ⟨hj, hall⟩ := hj
  have hw : IntKind.i64.wrap ((j : Int) + 1) = (j : Int) + 1 := wrap64 (by omega) (by omega)
  apply G.seq
  refine G.rg tab_ok ok_specRunProcess (hk := ?_)
  apply G.seq
  refine G.iff (h1 := fun h2 => ?_) (h2 := fun h2 => ?_)
  ·try simp only [zqz] at h2
   apply G.skip
   apply G.seq
   apply G.block
   apply G.seq
   refine G.rg tab_ok ok_specRunProcess (hk := ?_)
   apply G.seq
   have hlr : (ins.getD j default).length < 17592186044416 := hc3 _ (getD_mem h2)
   refine G.rg tab_ok ok_specRunProcess (hk := ?_)
   refine G.iff (h1 := fun h3 => ?_) (h2 := fun h3 => ?_)
   ·try simp only [zqz] at h3
    apply G.seq
    refine G.rg tab_ok ok_specRunProcess (hk := ?_)
    refine G.nilRow 6 1 rfl ?_
    refine G.nilRow 7 1 rfl ?_
    refine G.fin tab_ok (hr := ?_)
    have hb : runBad i o l ins fuel = true := by
     cases hb : runBad i o l ins fuel with
     | true => rfl
     | false =>
      exfalso
      obtain ⟨g1, g2, g3, g4, g5⟩ := runBad_false hb
      have g6 := g2.il
      have := gnot h2 h3
      rw [g5] at this; cases this
    simp only [oneOrTup, runO, hb, if_true]
    rfl
   ·try simp only [zqz] at h3
    apply G.skip
    apply G.blk
    refine G.rg tab_ok ok_specRunProcess (hk := ?_)
    refine G.cn [1, 2, 3, 31, 32, 33] [0] (h := ?_)
    exact G.upto (hJ (j + 1) ⟨by omega, gupto (p := strOk) hall h3⟩ (by omega)) (by simp)
  ·try simp only [zqz] at h2
   refine G.exit rfl ?_
   apply G.seq
   have hall2 := gall (p := strOk) (fun k hk => hall k (by omega))
   have hbad : runBad i o l ins fuel = false := by
    obtain ⟨k0, k3, k4⟩ := h1
    have k1 : progOk i o l = true := by cases hp : progOk i o l with
     | true => rfl
     | false => rw [hp] at k0; simp at k0
    have k2 : (ins.length : Int) = i := by rw [k1] at k0; simpa using k0
    unfold runBad
    rw [k1, hall2]
    simp [k2]
    omega
   obtain ⟨g1, g2, g3, g4, g5⟩ := runBad_false hbad
   refine G.rg tab_ok ok_specRunProcess (hk := ?_)
   apply G.seq
   refine G.rg tab_ok ok_specRunProcess (hk := ?_)
   refine G.fin tab_ok (hr := ?_)
   have hb : runBad i o l ins fuel = false := hbad
   simp only [hfou, hfiv, oneOrTup, runO, hb, Bool.false_eq_true, if_false]
def r_specRunProcess (xs0 : List A) (rr : A) : Prop := ∃ (i : Int) (o : Int) (l : List I4) (ins : List (List Int)) (fuel : Int), (l.length < 4398046511104) ∧ (ins.length < 5864062014805) ∧ (LW ins) ∧ xs0 = [.agg [.int .i64 i, .int .i64 o, .row false 4 (l.map insv)], .row false 1 (ins.map ivL), .int .i64 fuel] ∧ rr = .tup [.row true 1 ((runO i o l ins fuel).1.map ovL), .row true 1 ((runO i o l ins fuel).2.1.map iv), .int .i64 (runO i o l ins fuel).2.2.1, .bool (runO i o l ins fuel).2.2.2]
noncomputable def q_specRunProcess : List A → Option A := kgr r_specRunProcess
theorem k_specRunProcess : KOk Try.prog (18, q_specRunProcess) := kgr_ok (enters_of Try.func18 rfl rfl) (by rintro xs0 rr ⟨i, o, l, ins, fuel, hc1, hc2, hc3, rfl, rfl⟩; exact specRunProcess_ac i o l ins fuel hc1 hc2 hc3)
theorem e_specRunProcess : ∀ (i : Int) (o : Int) (l : List I4) (ins : List (List Int)) (fuel : Int), (l.length < 4398046511104) → (ins.length < 5864062014805) → (LW ins) → q_specRunProcess [.agg [.int .i64 i, .int .i64 o, .row false 4 (l.map insv)], .row false 1 (ins.map ivL), .int .i64 fuel] = some (.tup [.row true 1 ((runO i o l ins fuel).1.map ovL), .row true 1 ((runO i o l ins fuel).2.1.map iv), .int .i64 (runO i o l ins fuel).2.2.1, .bool (runO i o l ins fuel).2.2.2]) := by
 intro i o l ins fuel hc1 hc2 hc3
 refine kgr_eq (fun xs0 rr r2 h h2 => ?_) ⟨i, o, l, ins, fuel, hc1, hc2, hc3, rfl, rfl⟩
 obtain ⟨i1, o1, l1, ins1, fuel1, _, _, _, e1, rfl⟩ := h; obtain ⟨i2, o2, l2, ins2, fuel2, _, _, _, e2, rfl⟩ := h2
 rw [e1] at e2
 simp only [List.cons.injEq, A.int.injEq, A.agg.injEq, A.row.injEq, insv_inj, ivL_inj, true_and, and_true] at e2
 obtain ⟨⟨e3, e4, e5⟩, e6, e7⟩ := e2
 subst e3 e4 e5 e6 e7
 rfl
end Go.Proofs.Ytimgfinlbhodhaa.Ab
