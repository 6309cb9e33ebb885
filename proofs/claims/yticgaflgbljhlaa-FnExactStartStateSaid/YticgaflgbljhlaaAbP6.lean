/- Walks of functions of the program: what each answers, for all arguments that meet its conditions. -/
import Derived.Test.YticgaflgbljhlaaAbP5
namespace Go.Proofs.Yticgaflgbljhlaa.Ab
open Go
set_option linter.unusedVariables false
set_option linter.unusedSimpArgs false
set_option maxHeartbeats 4000000

def wantK (l : List I4) (pc : Int) : Int × Int := if pc = l.length then (0, 0) else if (l.getD pc.toNat default).1 = 11 then (0, 0) else if (l.getD pc.toNat default).1 = 1 then (2, (l.getD pc.toNat default).2.2.1) else if (l.getD pc.toNat default).1 = 2 then (3, (l.getD pc.toNat default).2.2.1) else (1, 0)
def wantOf (i o : Int) (l : List I4) (pc : Int) (rs : List Int) : Int × Int := if (progOk i o l && actOk pc l.length rs) = true then wantK l pc else (0, 0)
theorem act_pc {pc n : Int} {rs : List Int} (h : actOk pc n rs = true) : 0 ≤ pc ∧ pc ≤ n := by
  simp only [actOk, inR, Bool.and_eq_true, decide_eq_true_eq] at h
  omega
theorem implWant_ac (i : Int) (o : Int) (l : List I4) (pc : Int) (rs : List Int) (hc1 : 0 ≤ pc) (hc2 : pc ≤ l.length) : AC Try.prog 154 [.agg [.int .i64 i, .int .i64 o, .row false 4 (l.map insv)], .agg [.int .i64 pc, .row false 1 (rs.map iv)]] (.tup [.int .i64 (wantK l pc).1, .int .i64 (wantK l pc).2]) := by
  refine AC.of tab_ok Try.func154 rfl (Nat.le_of_ble_eq_true rfl) fun w0 S0 => ?_
  change G _ _ ⟨[(0, .agg [.int .i64 i, .int .i64 o, .row false 4 (l.map insv)]), (1, .agg [.int .i64 pc, .row false 1 (rs.map iv)])], [], 31⟩
  apply G.seq
  refine G.rg tab_ok (kof_nil _) (hk := ?_)
  apply G.seq
  apply G.seq
  refine G.rg tab_ok (kof_nil _) (hk := ?_)
  refine G.fg [2, 3, 12, 25, 26, 29, 30] (hk := ?_)
  refine G.iff (h1 := fun h1 => ?_) (h2 := fun h1 => ?_)
  · try simp only [decide_eq_true_eq, decide_eq_false_iff_not, Bool.and_eq_true, Bool.and_eq_false_imp, Bool.or_eq_true, Bool.or_eq_false_iff, Bool.not_eq_true', Bool.not_eq_false', bne_iff_ne, beq_iff_eq, bne_eq_false_iff_eq, beq_eq_false_iff_ne, ne_eq, Int.ofNat_lt, Int.not_lt, Int.not_le, Int.ofNat_le, Nat.not_lt, Nat.not_le, gt_iff_lt, ge_iff_le] at h1
    apply G.seq
    refine G.rg tab_ok (kof_nil _) (hk := ?_)
    refine G.fin tab_ok (hr := ?_)
    simp only [oneOrTup, wantK, if_true, if_false, eq_self, Int.reduceEq, *]
  · try simp only [decide_eq_true_eq, decide_eq_false_iff_not, Bool.and_eq_true, Bool.and_eq_false_imp, Bool.or_eq_true, Bool.or_eq_false_iff, Bool.not_eq_true', Bool.not_eq_false', bne_iff_ne, beq_iff_eq, bne_eq_false_iff_eq, beq_eq_false_iff_ne, ne_eq, Int.ofNat_lt, Int.not_lt, Int.not_le, Int.ofNat_le, Nat.not_lt, Nat.not_le, gt_iff_lt, ge_iff_le] at h1
    apply G.skip
    apply G.seq
    apply G.seq
    have hp1 : pc < l.length := by omega
    have hp2 : pc.toNat < l.length := by omega
    refine G.rg tab_ok (kof_nil _) (hk := ?_)
    apply G.seq
    refine G.rg tab_ok (kof_nil _) (hk := ?_)
    apply G.block
    apply G.seq
    refine G.rg tab_ok (kof_nil _) (hk := ?_)
    refine G.fg [6, 20, 21, 25, 26, 29, 30] (hk := ?_)
    refine G.iff (h1 := fun h2 => ?_) (h2 := fun h2 => ?_)
    · try simp only [decide_eq_true_eq, decide_eq_false_iff_not, Bool.and_eq_true, Bool.and_eq_false_imp, Bool.or_eq_true, Bool.or_eq_false_iff, Bool.not_eq_true', Bool.not_eq_false', bne_iff_ne, beq_iff_eq, bne_eq_false_iff_eq, beq_eq_false_iff_ne, ne_eq, Int.ofNat_lt, Int.not_lt, Int.not_le, Int.ofNat_le, Nat.not_lt, Nat.not_le, gt_iff_lt, ge_iff_le] at h2
      apply G.seq
      refine G.rg tab_ok (kof_nil _) (hk := ?_)
      refine G.fin tab_ok (hr := ?_)
      simp only [oneOrTup, wantK, if_true, if_false, eq_self, Int.reduceEq, *]
    · try simp only [decide_eq_true_eq, decide_eq_false_iff_not, Bool.and_eq_true, Bool.and_eq_false_imp, Bool.or_eq_true, Bool.or_eq_false_iff, Bool.not_eq_true', Bool.not_eq_false', bne_iff_ne, beq_iff_eq, bne_eq_false_iff_eq, beq_eq_false_iff_ne, ne_eq, Int.ofNat_lt, Int.not_lt, Int.not_le, Int.ofNat_le, Nat.not_lt, Nat.not_le, gt_iff_lt, ge_iff_le] at h2
      apply G.seq
      refine G.rg tab_ok (kof_nil _) (hk := ?_)
      refine G.iff (h1 := fun h3 => ?_) (h2 := fun h3 => ?_)
      · try simp only [decide_eq_true_eq, decide_eq_false_iff_not, Bool.and_eq_true, Bool.and_eq_false_imp, Bool.or_eq_true, Bool.or_eq_false_iff, Bool.not_eq_true', Bool.not_eq_false', bne_iff_ne, beq_iff_eq, bne_eq_false_iff_eq, beq_eq_false_iff_ne, ne_eq, Int.ofNat_lt, Int.not_lt, Int.not_le, Int.ofNat_le, Nat.not_lt, Nat.not_le, gt_iff_lt, ge_iff_le] at h3
        apply G.seq
        refine G.dr mixed tab_ok (kof_nil _) [0, 1, 2, 3] (hk := ?_)
        refine G.fin tab_ok (hr := ?_)
        simp only [oneOrTup, wantK, if_true, if_false, eq_self, Int.reduceEq, *]
      · try simp only [decide_eq_true_eq, decide_eq_false_iff_not, Bool.and_eq_true, Bool.and_eq_false_imp, Bool.or_eq_true, Bool.or_eq_false_iff, Bool.not_eq_true', Bool.not_eq_false', bne_iff_ne, beq_iff_eq, bne_eq_false_iff_eq, beq_eq_false_iff_ne, ne_eq, Int.ofNat_lt, Int.not_lt, Int.not_le, Int.ofNat_le, Nat.not_lt, Nat.not_le, gt_iff_lt, ge_iff_le] at h3
        apply G.seq
        refine G.rg tab_ok (kof_nil _) (hk := ?_)
        refine G.iff (h1 := fun h4 => ?_) (h2 := fun h4 => ?_)
        · try simp only [decide_eq_true_eq, decide_eq_false_iff_not, Bool.and_eq_true, Bool.and_eq_false_imp, Bool.or_eq_true, Bool.or_eq_false_iff, Bool.not_eq_true', Bool.not_eq_false', bne_iff_ne, beq_iff_eq, bne_eq_false_iff_eq, beq_eq_false_iff_ne, ne_eq, Int.ofNat_lt, Int.not_lt, Int.not_le, Int.ofNat_le, Nat.not_lt, Nat.not_le, gt_iff_lt, ge_iff_le] at h4
          apply G.seq
          refine G.dr mixed tab_ok (kof_nil _) [0, 1, 2, 3] (hk := ?_)
          refine G.fin tab_ok (hr := ?_)
          simp only [oneOrTup, wantK, if_true, if_false, eq_self, Int.reduceEq, *]
        · try simp only [decide_eq_true_eq, decide_eq_false_iff_not, Bool.and_eq_true, Bool.and_eq_false_imp, Bool.or_eq_true, Bool.or_eq_false_iff, Bool.not_eq_true', Bool.not_eq_false', bne_iff_ne, beq_iff_eq, bne_eq_false_iff_eq, beq_eq_false_iff_ne, ne_eq, Int.ofNat_lt, Int.not_lt, Int.not_le, Int.ofNat_le, Nat.not_lt, Nat.not_le, gt_iff_lt, ge_iff_le] at h4
          apply G.skip
          apply G.blk
          apply G.seq
          refine G.rg tab_ok (kof_nil _) (hk := ?_)
          refine G.fin tab_ok (hr := ?_)
          simp only [oneOrTup, wantK, if_true, if_false, eq_self, Int.reduceEq, *]
def r_implWant (xs0 : List A) (rr : A) : Prop := ∃ (i : Int) (o : Int) (l : List I4) (pc : Int) (rs : List Int), (0 ≤ pc) ∧ (pc ≤ l.length) ∧ xs0 = [.agg [.int .i64 i, .int .i64 o, .row false 4 (l.map insv)], .agg [.int .i64 pc, .row false 1 (rs.map iv)]] ∧ rr = .tup [.int .i64 (wantK l pc).1, .int .i64 (wantK l pc).2]
noncomputable def q_implWant : List A → Option A := kgr r_implWant
theorem k_implWant : KOk Try.prog (154, q_implWant) := kgr_ok (enters_of Try.func154 rfl rfl) (by rintro xs0 rr ⟨i, o, l, pc, rs, hc1, hc2, rfl, rfl⟩; exact implWant_ac i o l pc rs hc1 hc2)
theorem e_implWant : ∀ (i : Int) (o : Int) (l : List I4) (pc : Int) (rs : List Int), (0 ≤ pc) → (pc ≤ l.length) → q_implWant [.agg [.int .i64 i, .int .i64 o, .row false 4 (l.map insv)], .agg [.int .i64 pc, .row false 1 (rs.map iv)]] = some (.tup [.int .i64 (wantK l pc).1, .int .i64 (wantK l pc).2]) := by
  intro i o l pc rs hc1 hc2
  refine kgr_eq (fun xs0 rr r2 h h2 => ?_) ⟨i, o, l, pc, rs, hc1, hc2, rfl, rfl⟩
  obtain ⟨i1, o1, l1, pc1, rs1, _, _, e1, rfl⟩ := h; obtain ⟨i2, o2, l2, pc2, rs2, _, _, e2, rfl⟩ := h2
  rw [e1] at e2
  simp only [List.cons.injEq, A.int.injEq, A.bool.injEq, A.agg.injEq, A.row.injEq, A.fn.injEq, A.rp.injEq, insv_inj, iv_inj, true_and, and_true] at e2
  simp [e2]

theorem l2Want_ac (i : Int) (o : Int) (l : List I4) (pc : Int) (rs : List Int) (hc1 : 0 ≤ pc) (hc2 : pc ≤ l.length) : AC Try.prog 111 [.agg [.int .i64 i, .int .i64 o, .row false 4 (l.map insv)], .agg [.int .i64 pc, .row false 1 (rs.map iv)]] (.tup [.int .i64 (wantK l pc).1, .int .i64 (wantK l pc).2]) := by
  refine AC.of tab_ok Try.func111 rfl (Nat.le_of_ble_eq_true rfl) fun w0 S0 => ?_
  change G _ _ ⟨[(0, .agg [.int .i64 i, .int .i64 o, .row false 4 (l.map insv)]), (1, .agg [.int .i64 pc, .row false 1 (rs.map iv)])], [], 31⟩
  apply G.seq
  refine G.rg tab_ok (kof_nil _) (hk := ?_)
  apply G.seq
  apply G.seq
  refine G.rg tab_ok (kof_nil _) (hk := ?_)
  refine G.fg [2, 3, 12, 25, 26, 29, 30] (hk := ?_)
  refine G.iff (h1 := fun h1 => ?_) (h2 := fun h1 => ?_)
  · try simp only [decide_eq_true_eq, decide_eq_false_iff_not, Bool.and_eq_true, Bool.and_eq_false_imp, Bool.or_eq_true, Bool.or_eq_false_iff, Bool.not_eq_true', Bool.not_eq_false', bne_iff_ne, beq_iff_eq, bne_eq_false_iff_eq, beq_eq_false_iff_ne, ne_eq, Int.ofNat_lt, Int.not_lt, Int.not_le, Int.ofNat_le, Nat.not_lt, Nat.not_le, gt_iff_lt, ge_iff_le] at h1
    apply G.seq
    refine G.rg tab_ok (kof_nil _) (hk := ?_)
    refine G.fin tab_ok (hr := ?_)
    simp only [oneOrTup, wantK, if_true, if_false, eq_self, Int.reduceEq, *]
  · try simp only [decide_eq_true_eq, decide_eq_false_iff_not, Bool.and_eq_true, Bool.and_eq_false_imp, Bool.or_eq_true, Bool.or_eq_false_iff, Bool.not_eq_true', Bool.not_eq_false', bne_iff_ne, beq_iff_eq, bne_eq_false_iff_eq, beq_eq_false_iff_ne, ne_eq, Int.ofNat_lt, Int.not_lt, Int.not_le, Int.ofNat_le, Nat.not_lt, Nat.not_le, gt_iff_lt, ge_iff_le] at h1
    apply G.skip
    apply G.seq
    have hp1 : pc < l.length := by omega
    have hp2 : pc.toNat < l.length := by omega
    refine G.rg tab_ok (kof_nil _) (hk := ?_)
    apply G.seq
    apply G.seq
    refine G.rg tab_ok (kof_nil _) (hk := ?_)
    apply G.block
    apply G.seq
    refine G.rg tab_ok (kof_nil _) (hk := ?_)
    refine G.fg [6, 20, 21, 25, 26, 29, 30] (hk := ?_)
    refine G.iff (h1 := fun h2 => ?_) (h2 := fun h2 => ?_)
    · try simp only [decide_eq_true_eq, decide_eq_false_iff_not, Bool.and_eq_true, Bool.and_eq_false_imp, Bool.or_eq_true, Bool.or_eq_false_iff, Bool.not_eq_true', Bool.not_eq_false', bne_iff_ne, beq_iff_eq, bne_eq_false_iff_eq, beq_eq_false_iff_ne, ne_eq, Int.ofNat_lt, Int.not_lt, Int.not_le, Int.ofNat_le, Nat.not_lt, Nat.not_le, gt_iff_lt, ge_iff_le] at h2
      apply G.seq
      refine G.rg tab_ok (kof_nil _) (hk := ?_)
      refine G.fin tab_ok (hr := ?_)
      simp only [oneOrTup, wantK, if_true, if_false, eq_self, Int.reduceEq, *]
    · try simp only [decide_eq_true_eq, decide_eq_false_iff_not, Bool.and_eq_true, Bool.and_eq_false_imp, Bool.or_eq_true, Bool.or_eq_false_iff, Bool.not_eq_true', Bool.not_eq_false', bne_iff_ne, beq_iff_eq, bne_eq_false_iff_eq, beq_eq_false_iff_ne, ne_eq, Int.ofNat_lt, Int.not_lt, Int.not_le, Int.ofNat_le, Nat.not_lt, Nat.not_le, gt_iff_lt, ge_iff_le] at h2
      apply G.seq
      refine G.rg tab_ok (kof_nil _) (hk := ?_)
      refine G.iff (h1 := fun h3 => ?_) (h2 := fun h3 => ?_)
      · try simp only [decide_eq_true_eq, decide_eq_false_iff_not, Bool.and_eq_true, Bool.and_eq_false_imp, Bool.or_eq_true, Bool.or_eq_false_iff, Bool.not_eq_true', Bool.not_eq_false', bne_iff_ne, beq_iff_eq, bne_eq_false_iff_eq, beq_eq_false_iff_ne, ne_eq, Int.ofNat_lt, Int.not_lt, Int.not_le, Int.ofNat_le, Nat.not_lt, Nat.not_le, gt_iff_lt, ge_iff_le] at h3
        apply G.seq
        refine G.dr mixed tab_ok (kof_nil _) [0, 1, 2, 3] (hk := ?_)
        refine G.fin tab_ok (hr := ?_)
        simp only [oneOrTup, wantK, if_true, if_false, eq_self, Int.reduceEq, *]
      · try simp only [decide_eq_true_eq, decide_eq_false_iff_not, Bool.and_eq_true, Bool.and_eq_false_imp, Bool.or_eq_true, Bool.or_eq_false_iff, Bool.not_eq_true', Bool.not_eq_false', bne_iff_ne, beq_iff_eq, bne_eq_false_iff_eq, beq_eq_false_iff_ne, ne_eq, Int.ofNat_lt, Int.not_lt, Int.not_le, Int.ofNat_le, Nat.not_lt, Nat.not_le, gt_iff_lt, ge_iff_le] at h3
        apply G.seq
        refine G.rg tab_ok (kof_nil _) (hk := ?_)
        refine G.iff (h1 := fun h4 => ?_) (h2 := fun h4 => ?_)
        · try simp only [decide_eq_true_eq, decide_eq_false_iff_not, Bool.and_eq_true, Bool.and_eq_false_imp, Bool.or_eq_true, Bool.or_eq_false_iff, Bool.not_eq_true', Bool.not_eq_false', bne_iff_ne, beq_iff_eq, bne_eq_false_iff_eq, beq_eq_false_iff_ne, ne_eq, Int.ofNat_lt, Int.not_lt, Int.not_le, Int.ofNat_le, Nat.not_lt, Nat.not_le, gt_iff_lt, ge_iff_le] at h4
          apply G.seq
          refine G.dr mixed tab_ok (kof_nil _) [0, 1, 2, 3] (hk := ?_)
          refine G.fin tab_ok (hr := ?_)
          simp only [oneOrTup, wantK, if_true, if_false, eq_self, Int.reduceEq, *]
        · try simp only [decide_eq_true_eq, decide_eq_false_iff_not, Bool.and_eq_true, Bool.and_eq_false_imp, Bool.or_eq_true, Bool.or_eq_false_iff, Bool.not_eq_true', Bool.not_eq_false', bne_iff_ne, beq_iff_eq, bne_eq_false_iff_eq, beq_eq_false_iff_ne, ne_eq, Int.ofNat_lt, Int.not_lt, Int.not_le, Int.ofNat_le, Nat.not_lt, Nat.not_le, gt_iff_lt, ge_iff_le] at h4
          apply G.skip
          apply G.blk
          apply G.seq
          refine G.rg tab_ok (kof_nil _) (hk := ?_)
          refine G.fin tab_ok (hr := ?_)
          simp only [oneOrTup, wantK, if_true, if_false, eq_self, Int.reduceEq, *]
def r_l2Want (xs0 : List A) (rr : A) : Prop := ∃ (i : Int) (o : Int) (l : List I4) (pc : Int) (rs : List Int), (0 ≤ pc) ∧ (pc ≤ l.length) ∧ xs0 = [.agg [.int .i64 i, .int .i64 o, .row false 4 (l.map insv)], .agg [.int .i64 pc, .row false 1 (rs.map iv)]] ∧ rr = .tup [.int .i64 (wantK l pc).1, .int .i64 (wantK l pc).2]
noncomputable def q_l2Want : List A → Option A := kgr r_l2Want
theorem k_l2Want : KOk Try.prog (111, q_l2Want) := kgr_ok (enters_of Try.func111 rfl rfl) (by rintro xs0 rr ⟨i, o, l, pc, rs, hc1, hc2, rfl, rfl⟩; exact l2Want_ac i o l pc rs hc1 hc2)
theorem e_l2Want : ∀ (i : Int) (o : Int) (l : List I4) (pc : Int) (rs : List Int), (0 ≤ pc) → (pc ≤ l.length) → q_l2Want [.agg [.int .i64 i, .int .i64 o, .row false 4 (l.map insv)], .agg [.int .i64 pc, .row false 1 (rs.map iv)]] = some (.tup [.int .i64 (wantK l pc).1, .int .i64 (wantK l pc).2]) := by
  intro i o l pc rs hc1 hc2
  refine kgr_eq (fun xs0 rr r2 h h2 => ?_) ⟨i, o, l, pc, rs, hc1, hc2, rfl, rfl⟩
  obtain ⟨i1, o1, l1, pc1, rs1, _, _, e1, rfl⟩ := h; obtain ⟨i2, o2, l2, pc2, rs2, _, _, e2, rfl⟩ := h2
  rw [e1] at e2
  simp only [List.cons.injEq, A.int.injEq, A.bool.injEq, A.agg.injEq, A.row.injEq, A.fn.injEq, A.rp.injEq, insv_inj, iv_inj, true_and, and_true] at e2
  simp [e2]

end Go.Proofs.Yticgaflgbljhlaa.Ab
