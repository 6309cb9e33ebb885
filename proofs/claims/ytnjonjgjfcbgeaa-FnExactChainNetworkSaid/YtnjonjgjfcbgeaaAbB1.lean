/- Walks of functions of the program: what each answers, for all arguments that meet its conditions. -/
import Derived.Test.YtnjonjgjfcbgeaaAbNet5
import Derived.Test.YtnjonjgjfcbgeaaAbCell
import Derived.Test.YtnjonjgjfcbgeaaAbAutoG
import Derived.Test.YtnjonjgjfcbgeaaAbAutoH
namespace Go.Proofs.Ytnjonjgjfcbgeaa.Ab
open Go
set_option linter.unusedVariables false
set_option linter.unusedSimpArgs false
set_option maxHeartbeats 4000000

theorem l3Program_ac (i : Int) (o : Int) (l : List I4) (hc1 : l.length ≤ 1048576) : AC Try.prog 109 [.agg [.int .i64 i, .int .i64 o, .row false 4 (l.map insv)]] (.agg [.int .i64 i, .int .i64 o, .row true 4 (l.map insv)]) := by
  have hb1 : ((0 + l.length : Nat) : Int) ≤ 4611686018427387904 := by omega
  have hb2 : (0 + l.length) * 32 ≤ 70368744177664 := by omega
  have hb3 : (l.length : Int) ≤ 4611686018427387904 := by omega
  have hb4 : l.length * 32 ≤ 70368744177664 := by omega
  have hcpi := copyable_insv
  refine AC.of tab_ok Try.func109 rfl (Nat.le_of_ble_eq_true rfl) fun w0 S0 => ?_
  change G _ _ ⟨[(0, .agg [.int .i64 i, .int .i64 o, .row false 4 (l.map insv)])], [], 12⟩
  apply G.seq
  refine G.rg tab_ok (kof_nil _) (hk := ?_)
  apply G.seq
  apply G.joinR
  · intro hk
    refine G.drawL (c := ⟨Try.prog, tab, _, _, _, _, _⟩) mixed tab_ok (kof_nil _) 10 ?_ rfl
    refine AnyL.gg (n := 6) 4 [0, 2, 5, 6] (h := ?_)
    refine AnyL.fk3w (n := 5) 1 3 4 (k1 := ?_) (k2 := ?_) (k3 := ?_)
    · skip
      refine AnyL.fk2 (n := 4) 3 4 (k1 := ?_) (k2 := ?_)
      · skip
        refine AnyL.gg (n := 0) 4 [4, 7, 8, 9] (h := ?_)
        exact AnyL.ln [2] (h := hk)
      · skip
        refine AnyL.fk2 (n := 3) 3 7 (k1 := ?_) (k2 := ?_)
        · skip
          refine AnyL.gg (n := 0) 3 [7, 8, 9] (h := ?_)
          exact AnyL.ln [2] (h := hk)
        · skip
          refine AnyL.gg (n := 0) 3 [3, 8, 9] (h := ?_)
          exact AnyL.ln [2] (h := hk)
    · skip
      refine AnyL.fk2 (n := 4) 1 4 (k1 := ?_) (k2 := ?_)
      · skip
        refine AnyL.gg (n := 0) 4 [4, 7, 8, 9] (h := ?_)
        exact AnyL.ln [2] (h := hk)
      · skip
        refine AnyL.fk2 (n := 3) 1 7 (k1 := ?_) (k2 := ?_)
        · skip
          refine AnyL.gg (n := 0) 3 [7, 8, 9] (h := ?_)
          exact AnyL.ln [2] (h := hk)
        · skip
          refine AnyL.gg (n := 0) 3 [1, 8, 9] (h := ?_)
          exact AnyL.ln [2] (h := hk)
    · skip
      refine AnyL.fk3w (n := 4) 1 3 7 (k1 := ?_) (k2 := ?_) (k3 := ?_)
      · skip
        refine AnyL.fk2 (n := 3) 3 7 (k1 := ?_) (k2 := ?_)
        · skip
          refine AnyL.gg (n := 0) 3 [7, 8, 9] (h := ?_)
          exact AnyL.ln [2] (h := hk)
        · skip
          refine AnyL.gg (n := 0) 3 [3, 8, 9] (h := ?_)
          exact AnyL.ln [2] (h := hk)
      · skip
        refine AnyL.fk2 (n := 3) 1 7 (k1 := ?_) (k2 := ?_)
        · skip
          refine AnyL.gg (n := 0) 3 [7, 8, 9] (h := ?_)
          exact AnyL.ln [2] (h := hk)
        · skip
          refine AnyL.gg (n := 0) 3 [1, 8, 9] (h := ?_)
          exact AnyL.ln [2] (h := hk)
      · skip
        refine AnyL.gg (n := 0) 4 [1, 3, 8, 9] (h := ?_)
        exact AnyL.ln [2] (h := hk)
  refine G.fin tab_ok (hr := ?_)
  rfl
def r_l3Program (xs0 : List A) (rr : A) : Prop := ∃ (i : Int) (o : Int) (l : List I4), (l.length ≤ 1048576) ∧ xs0 = [.agg [.int .i64 i, .int .i64 o, .row false 4 (l.map insv)]] ∧ rr = .agg [.int .i64 i, .int .i64 o, .row true 4 (l.map insv)]
noncomputable def q_l3Program : List A → Option A := kgr r_l3Program
theorem k_l3Program : KOk Try.prog (109, q_l3Program) := kgr_ok (enters_of Try.func109 rfl rfl) (by rintro xs0 rr ⟨i, o, l, hc1, rfl, rfl⟩; exact l3Program_ac i o l hc1)
theorem e_l3Program : ∀ (i : Int) (o : Int) (l : List I4), (l.length ≤ 1048576) → q_l3Program [.agg [.int .i64 i, .int .i64 o, .row false 4 (l.map insv)]] = some (.agg [.int .i64 i, .int .i64 o, .row true 4 (l.map insv)]) := by
  intro i o l hc1
  refine kgr_eq (fun xs0 rr r2 h h2 => ?_) ⟨i, o, l, hc1, rfl, rfl⟩
  obtain ⟨i1, o1, l1, _, e1, rfl⟩ := h; obtain ⟨i2, o2, l2, _, e2, rfl⟩ := h2
  rw [e1] at e2
  simp only [List.cons.injEq, A.int.injEq, A.bool.injEq, A.agg.injEq, A.row.injEq, A.fn.injEq, A.rp.injEq, insv_inj, iv_inj, true_and, and_true] at e2
  simp [e2]

theorem cloneInstr_ac (l : List I4) (hc1 : l.length ≤ 1048576) : AC Try.prog 164 [.row false 4 (l.map insv)] (.row true 4 (l.map insv)) := by
  have hb1 : ((0 + l.length : Nat) : Int) ≤ 4611686018427387904 := by omega
  have hb2 : (0 + l.length) * 32 ≤ 70368744177664 := by omega
  have hb3 : (l.length : Int) ≤ 4611686018427387904 := by omega
  have hb4 : l.length * 32 ≤ 70368744177664 := by omega
  have hcpi := copyable_insv
  refine AC.of tab_ok Try.func164 rfl (Nat.le_of_ble_eq_true rfl) fun w0 S0 => ?_
  change G _ _ ⟨[(0, .row false 4 (l.map insv))], [], 8⟩
  apply G.seq
  refine G.rg tab_ok (kof_nil _) (hk := ?_)
  apply G.seq
  apply G.seq
  refine G.rgN 1 tab_ok (kof_nil _) (hk := ?_)
  refine G.opNil tab_ok rfl rfl rfl rfl rfl rfl rfl (h1 := fun hn => ?_) (h2 := ?_)
  · refine G.rgC tab_ok (kof_nil _) (hk := ?_)
    refine G.iffT (h1 := ?_)
    apply G.seq
    refine G.rg tab_ok (kof_nil _) (hk := ?_)
    have e : l = [] := by simpa using hn
    subst e
    refine G.nilRow 2 4 rfl ?_
    refine G.fin tab_ok (hr := ?_)
    rfl
  · refine G.rgC tab_ok (kof_nil _) (hk := ?_)
    refine G.iffF (h2 := ?_)
    apply G.skip
    apply G.seq
    refine G.rg tab_ok (kof_nil _) (hk := ?_)
    refine G.fin tab_ok (hr := ?_)
    rfl
def r_cloneInstr (xs0 : List A) (rr : A) : Prop := ∃ (l : List I4), (l.length ≤ 1048576) ∧ xs0 = [.row false 4 (l.map insv)] ∧ rr = .row true 4 (l.map insv)
noncomputable def q_cloneInstr : List A → Option A := kgr r_cloneInstr
theorem k_cloneInstr : KOk Try.prog (164, q_cloneInstr) := kgr_ok (enters_of Try.func164 rfl rfl) (by rintro xs0 rr ⟨l, hc1, rfl, rfl⟩; exact cloneInstr_ac l hc1)
theorem e_cloneInstr : ∀ (l : List I4), (l.length ≤ 1048576) → q_cloneInstr [.row false 4 (l.map insv)] = some (.row true 4 (l.map insv)) := by
  intro l hc1
  refine kgr_eq (fun xs0 rr r2 h h2 => ?_) ⟨l, hc1, rfl, rfl⟩
  obtain ⟨l1, _, e1, rfl⟩ := h; obtain ⟨l2, _, e2, rfl⟩ := h2
  rw [e1] at e2
  simp only [List.cons.injEq, A.int.injEq, A.bool.injEq, A.agg.injEq, A.row.injEq, A.fn.injEq, A.rp.injEq, insv_inj, iv_inj, true_and, and_true] at e2
  simp [e2]

theorem ok_copyProgram : Kn.ok Try.prog (kof [(164, q_cloneInstr)]) := kof_cons k_cloneInstr ((kof_nil _))
theorem copyProgram_ac (i : Int) (o : Int) (l : List I4) (hc1 : l.length ≤ 1048576) : AC Try.prog 162 [.agg [.int .i64 i, .int .i64 o, .row false 4 (l.map insv)]] (.agg [.int .i64 i, .int .i64 o, .row true 4 (l.map insv)]) := by
  have e_cloneInstr := e_cloneInstr
  refine AC.of tab_ok Try.func162 rfl (Nat.le_of_ble_eq_true rfl) fun w0 S0 => ?_
  change G _ _ ⟨[(0, .agg [.int .i64 i, .int .i64 o, .row false 4 (l.map insv)])], [], 8⟩
  apply G.seq
  refine G.rg tab_ok ok_copyProgram (hk := ?_)
  apply G.seq
  refine G.rg tab_ok ok_copyProgram (hk := ?_)
  apply G.seq
  refine G.rg tab_ok ok_copyProgram (hk := ?_)
  refine G.fin tab_ok (hr := ?_)
  rfl
def r_copyProgram (xs0 : List A) (rr : A) : Prop := ∃ (i : Int) (o : Int) (l : List I4), (l.length ≤ 1048576) ∧ xs0 = [.agg [.int .i64 i, .int .i64 o, .row false 4 (l.map insv)]] ∧ rr = .agg [.int .i64 i, .int .i64 o, .row true 4 (l.map insv)]
noncomputable def q_copyProgram : List A → Option A := kgr r_copyProgram
theorem k_copyProgram : KOk Try.prog (162, q_copyProgram) := kgr_ok (enters_of Try.func162 rfl rfl) (by rintro xs0 rr ⟨i, o, l, hc1, rfl, rfl⟩; exact copyProgram_ac i o l hc1)
theorem e_copyProgram : ∀ (i : Int) (o : Int) (l : List I4), (l.length ≤ 1048576) → q_copyProgram [.agg [.int .i64 i, .int .i64 o, .row false 4 (l.map insv)]] = some (.agg [.int .i64 i, .int .i64 o, .row true 4 (l.map insv)]) := by
  intro i o l hc1
  refine kgr_eq (fun xs0 rr r2 h h2 => ?_) ⟨i, o, l, hc1, rfl, rfl⟩
  obtain ⟨i1, o1, l1, _, e1, rfl⟩ := h; obtain ⟨i2, o2, l2, _, e2, rfl⟩ := h2
  rw [e1] at e2
  simp only [List.cons.injEq, A.int.injEq, A.bool.injEq, A.agg.injEq, A.row.injEq, A.fn.injEq, A.rp.injEq, insv_inj, iv_inj, true_and, and_true] at e2
  simp [e2]

end Go.Proofs.Ytnjonjgjfcbgeaa.Ab
