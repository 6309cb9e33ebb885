/- Walks of functions of the program: what each answers, for all arguments that meet its conditions. -/
import Derived.Test.YticgaflgbljhlaaAbP1
namespace Go.Proofs.Yticgaflgbljhlaa.Ab
open Go
set_option linter.unusedVariables false
set_option linter.unusedSimpArgs false
set_option maxHeartbeats 4000000


theorem ok_isInstr : Kn.ok Try.prog (kof [(178, q_isReg), (143, q_isToken)]) := kof_cons k_isReg (kof_cons k_isToken ((kof_nil _)))
theorem isInstr_ac (a : Int) (b : Int) (c : Int) (d : Int) (i : Int) (o : Int) (n : Int)  : AC Try.prog 164 [.agg [.int .i64 a, .int .i64 b, .int .i64 c, .int .i64 d], .int .i64 i, .int .i64 o, .int .i64 n] (.bool (opsOk i o n (a, b, c, d))) := by
  have e_isReg := e_isReg
  have e_isToken := e_isToken
  refine AC.of tab_ok Try.func164 rfl (Nat.le_of_ble_eq_true rfl) fun w0 S0 => ?_
  change G _ _ ⟨[(0, .agg [.int .i64 a, .int .i64 b, .int .i64 c, .int .i64 d]), (1, .int .i64 i), (2, .int .i64 o), (3, .int .i64 n)], [], 123⟩
  apply G.seq
  refine G.rg tab_ok ok_isInstr (hk := ?_)
  apply G.seq
  refine G.rg tab_ok ok_isInstr (hk := ?_)
  apply G.seq
  apply G.seq
  refine G.rg tab_ok ok_isInstr (hk := ?_)
  apply G.block
  apply G.seq
  refine G.rg tab_ok ok_isInstr (hk := ?_)
  refine G.fg [1, 2, 4, 9, 25, 26] (hk := ?_)
  refine G.iff (h1 := fun h1 => ?_) (h2 := fun h1 => ?_)
  · try simp only [decide_eq_true_eq, decide_eq_false_iff_not, Bool.and_eq_true, Bool.and_eq_false_imp, Bool.or_eq_true, Bool.or_eq_false_iff, Bool.not_eq_true', Bool.not_eq_false', bne_iff_ne, beq_iff_eq, bne_eq_false_iff_eq, beq_eq_false_iff_ne, ne_eq, Int.ofNat_lt, Int.not_lt, Int.not_le, Int.ofNat_le, Nat.not_lt, Nat.not_le, gt_iff_lt, ge_iff_le] at h1
    apply G.seq
    refine G.rg tab_ok ok_isInstr (hk := ?_)
    refine G.fin tab_ok (hr := ?_)
    simp only [oneOrTup]
    congr 1
    rw [Bool.eq_iff_iff]
    simp [opsOk, inR, tok, *] <;> omega
  · try simp only [decide_eq_true_eq, decide_eq_false_iff_not, Bool.and_eq_true, Bool.and_eq_false_imp, Bool.or_eq_true, Bool.or_eq_false_iff, Bool.not_eq_true', Bool.not_eq_false', bne_iff_ne, beq_iff_eq, bne_eq_false_iff_eq, beq_eq_false_iff_ne, ne_eq, Int.ofNat_lt, Int.not_lt, Int.not_le, Int.ofNat_le, Nat.not_lt, Nat.not_le, gt_iff_lt, ge_iff_le] at h1
    apply G.seq
    refine G.rg tab_ok ok_isInstr (hk := ?_)
    refine G.iff (h1 := fun h2 => ?_) (h2 := fun h2 => ?_)
    · try simp only [decide_eq_true_eq, decide_eq_false_iff_not, Bool.and_eq_true, Bool.and_eq_false_imp, Bool.or_eq_true, Bool.or_eq_false_iff, Bool.not_eq_true', Bool.not_eq_false', bne_iff_ne, beq_iff_eq, bne_eq_false_iff_eq, beq_eq_false_iff_ne, ne_eq, Int.ofNat_lt, Int.not_lt, Int.not_le, Int.ofNat_le, Nat.not_lt, Nat.not_le, gt_iff_lt, ge_iff_le] at h2
      apply G.seq
      refine G.rg tab_ok ok_isInstr (hk := ?_)
      refine G.fin tab_ok (hr := ?_)
      simp only [oneOrTup]
      congr 1
      rw [Bool.eq_iff_iff]
      simp [opsOk, inR, tok, *] <;> omega
    · try simp only [decide_eq_true_eq, decide_eq_false_iff_not, Bool.and_eq_true, Bool.and_eq_false_imp, Bool.or_eq_true, Bool.or_eq_false_iff, Bool.not_eq_true', Bool.not_eq_false', bne_iff_ne, beq_iff_eq, bne_eq_false_iff_eq, beq_eq_false_iff_ne, ne_eq, Int.ofNat_lt, Int.not_lt, Int.not_le, Int.ofNat_le, Nat.not_lt, Nat.not_le, gt_iff_lt, ge_iff_le] at h2
      apply G.seq
      refine G.rg tab_ok ok_isInstr (hk := ?_)
      refine G.iff (h1 := fun h3 => ?_) (h2 := fun h3 => ?_)
      · try simp only [decide_eq_true_eq, decide_eq_false_iff_not, Bool.and_eq_true, Bool.and_eq_false_imp, Bool.or_eq_true, Bool.or_eq_false_iff, Bool.not_eq_true', Bool.not_eq_false', bne_iff_ne, beq_iff_eq, bne_eq_false_iff_eq, beq_eq_false_iff_ne, ne_eq, Int.ofNat_lt, Int.not_lt, Int.not_le, Int.ofNat_le, Nat.not_lt, Nat.not_le, gt_iff_lt, ge_iff_le] at h3
        apply G.seq
        refine G.rg tab_ok ok_isInstr (hk := ?_)
        refine G.fin tab_ok (hr := ?_)
        simp only [oneOrTup]
        congr 1
        rw [Bool.eq_iff_iff]
        simp [opsOk, inR, tok, *] <;> omega
      · try simp only [decide_eq_true_eq, decide_eq_false_iff_not, Bool.and_eq_true, Bool.and_eq_false_imp, Bool.or_eq_true, Bool.or_eq_false_iff, Bool.not_eq_true', Bool.not_eq_false', bne_iff_ne, beq_iff_eq, bne_eq_false_iff_eq, beq_eq_false_iff_ne, ne_eq, Int.ofNat_lt, Int.not_lt, Int.not_le, Int.ofNat_le, Nat.not_lt, Nat.not_le, gt_iff_lt, ge_iff_le] at h3
        apply G.seq
        apply G.seq
        refine G.rg tab_ok ok_isInstr (hk := ?_)
        refine G.iff (h1 := fun h4 => ?_) (h2 := fun h4 => ?_)
        · try simp only [decide_eq_true_eq, decide_eq_false_iff_not, Bool.and_eq_true, Bool.and_eq_false_imp, Bool.or_eq_true, Bool.or_eq_false_iff, Bool.not_eq_true', Bool.not_eq_false', bne_iff_ne, beq_iff_eq, bne_eq_false_iff_eq, beq_eq_false_iff_ne, ne_eq, Int.ofNat_lt, Int.not_lt, Int.not_le, Int.ofNat_le, Nat.not_lt, Nat.not_le, gt_iff_lt, ge_iff_le] at h4
          apply G.skip
          refine G.iffT (h1 := ?_)
          apply G.seq
          refine G.rg tab_ok ok_isInstr (hk := ?_)
          refine G.fin tab_ok (hr := ?_)
          simp only [oneOrTup]
          congr 1
          rw [Bool.eq_iff_iff]
          simp [opsOk, inR, tok, *] <;> omega
        · try simp only [decide_eq_true_eq, decide_eq_false_iff_not, Bool.and_eq_true, Bool.and_eq_false_imp, Bool.or_eq_true, Bool.or_eq_false_iff, Bool.not_eq_true', Bool.not_eq_false', bne_iff_ne, beq_iff_eq, bne_eq_false_iff_eq, beq_eq_false_iff_ne, ne_eq, Int.ofNat_lt, Int.not_lt, Int.not_le, Int.ofNat_le, Nat.not_lt, Nat.not_le, gt_iff_lt, ge_iff_le] at h4
          apply G.seq
          refine G.rg tab_ok ok_isInstr (hk := ?_)
          refine G.iff (h1 := fun h5 => ?_) (h2 := fun h5 => ?_)
          · try simp only [decide_eq_true_eq, decide_eq_false_iff_not, Bool.and_eq_true, Bool.and_eq_false_imp, Bool.or_eq_true, Bool.or_eq_false_iff, Bool.not_eq_true', Bool.not_eq_false', bne_iff_ne, beq_iff_eq, bne_eq_false_iff_eq, beq_eq_false_iff_ne, ne_eq, Int.ofNat_lt, Int.not_lt, Int.not_le, Int.ofNat_le, Nat.not_lt, Nat.not_le, gt_iff_lt, ge_iff_le] at h5
            apply G.skip
            refine G.iffT (h1 := ?_)
            apply G.seq
            refine G.rg tab_ok ok_isInstr (hk := ?_)
            refine G.fin tab_ok (hr := ?_)
            simp only [oneOrTup]
            congr 1
            rw [Bool.eq_iff_iff]
            simp [opsOk, inR, tok, *] <;> omega
          · try simp only [decide_eq_true_eq, decide_eq_false_iff_not, Bool.and_eq_true, Bool.and_eq_false_imp, Bool.or_eq_true, Bool.or_eq_false_iff, Bool.not_eq_true', Bool.not_eq_false', bne_iff_ne, beq_iff_eq, bne_eq_false_iff_eq, beq_eq_false_iff_ne, ne_eq, Int.ofNat_lt, Int.not_lt, Int.not_le, Int.ofNat_le, Nat.not_lt, Nat.not_le, gt_iff_lt, ge_iff_le] at h5
            apply G.seq
            refine G.rg tab_ok ok_isInstr (hk := ?_)
            refine G.fg [4, 9, 25, 83] (hk := ?_)
            refine G.iff (h1 := fun h6 => ?_) (h2 := fun h6 => ?_)
            · try simp only [decide_eq_true_eq, decide_eq_false_iff_not, Bool.and_eq_true, Bool.and_eq_false_imp, Bool.or_eq_true, Bool.or_eq_false_iff, Bool.not_eq_true', Bool.not_eq_false', bne_iff_ne, beq_iff_eq, bne_eq_false_iff_eq, beq_eq_false_iff_ne, ne_eq, Int.ofNat_lt, Int.not_lt, Int.not_le, Int.ofNat_le, Nat.not_lt, Nat.not_le, gt_iff_lt, ge_iff_le] at h6
              apply G.skip
              refine G.iffT (h1 := ?_)
              apply G.seq
              refine G.rg tab_ok ok_isInstr (hk := ?_)
              refine G.fin tab_ok (hr := ?_)
              simp only [oneOrTup]
              congr 1
              rw [Bool.eq_iff_iff]
              simp [opsOk, inR, tok, *] <;> omega
            · try simp only [decide_eq_true_eq, decide_eq_false_iff_not, Bool.and_eq_true, Bool.and_eq_false_imp, Bool.or_eq_true, Bool.or_eq_false_iff, Bool.not_eq_true', Bool.not_eq_false', bne_iff_ne, beq_iff_eq, bne_eq_false_iff_eq, beq_eq_false_iff_ne, ne_eq, Int.ofNat_lt, Int.not_lt, Int.not_le, Int.ofNat_le, Nat.not_lt, Nat.not_le, gt_iff_lt, ge_iff_le] at h6
              refine G.rg tab_ok ok_isInstr (hk := ?_)
              refine G.iff (h1 := fun h7 => ?_) (h2 := fun h7 => ?_)
              · try simp only [decide_eq_true_eq, decide_eq_false_iff_not, Bool.and_eq_true, Bool.and_eq_false_imp, Bool.or_eq_true, Bool.or_eq_false_iff, Bool.not_eq_true', Bool.not_eq_false', bne_iff_ne, beq_iff_eq, bne_eq_false_iff_eq, beq_eq_false_iff_ne, ne_eq, Int.ofNat_lt, Int.not_lt, Int.not_le, Int.ofNat_le, Nat.not_lt, Nat.not_le, gt_iff_lt, ge_iff_le] at h7
                apply G.seq
                refine G.rg tab_ok ok_isInstr (hk := ?_)
                refine G.fin tab_ok (hr := ?_)
                simp only [oneOrTup]
                congr 1
                rw [Bool.eq_iff_iff]
                simp [opsOk, inR, tok, *] <;> omega
              · try simp only [decide_eq_true_eq, decide_eq_false_iff_not, Bool.and_eq_true, Bool.and_eq_false_imp, Bool.or_eq_true, Bool.or_eq_false_iff, Bool.not_eq_true', Bool.not_eq_false', bne_iff_ne, beq_iff_eq, bne_eq_false_iff_eq, beq_eq_false_iff_ne, ne_eq, Int.ofNat_lt, Int.not_lt, Int.not_le, Int.ofNat_le, Nat.not_lt, Nat.not_le, gt_iff_lt, ge_iff_le] at h7
                apply G.seq
                refine G.rg tab_ok ok_isInstr (hk := ?_)
                refine G.iff (h1 := fun h8 => ?_) (h2 := fun h8 => ?_)
                · try simp only [decide_eq_true_eq, decide_eq_false_iff_not, Bool.and_eq_true, Bool.and_eq_false_imp, Bool.or_eq_true, Bool.or_eq_false_iff, Bool.not_eq_true', Bool.not_eq_false', bne_iff_ne, beq_iff_eq, bne_eq_false_iff_eq, beq_eq_false_iff_ne, ne_eq, Int.ofNat_lt, Int.not_lt, Int.not_le, Int.ofNat_le, Nat.not_lt, Nat.not_le, gt_iff_lt, ge_iff_le] at h8
                  apply G.seq
                  refine G.rg tab_ok ok_isInstr (hk := ?_)
                  refine G.fin tab_ok (hr := ?_)
                  simp only [oneOrTup]
                  congr 1
                  rw [Bool.eq_iff_iff]
                  simp [opsOk, inR, tok, *] <;> omega
                · try simp only [decide_eq_true_eq, decide_eq_false_iff_not, Bool.and_eq_true, Bool.and_eq_false_imp, Bool.or_eq_true, Bool.or_eq_false_iff, Bool.not_eq_true', Bool.not_eq_false', bne_iff_ne, beq_iff_eq, bne_eq_false_iff_eq, beq_eq_false_iff_ne, ne_eq, Int.ofNat_lt, Int.not_lt, Int.not_le, Int.ofNat_le, Nat.not_lt, Nat.not_le, gt_iff_lt, ge_iff_le] at h8
                  apply G.seq
                  apply G.seq
                  refine G.rg tab_ok ok_isInstr (hk := ?_)
                  refine G.iff (h1 := fun h9 => ?_) (h2 := fun h9 => ?_)
                  · try simp only [decide_eq_true_eq, decide_eq_false_iff_not, Bool.and_eq_true, Bool.and_eq_false_imp, Bool.or_eq_true, Bool.or_eq_false_iff, Bool.not_eq_true', Bool.not_eq_false', bne_iff_ne, beq_iff_eq, bne_eq_false_iff_eq, beq_eq_false_iff_ne, ne_eq, Int.ofNat_lt, Int.not_lt, Int.not_le, Int.ofNat_le, Nat.not_lt, Nat.not_le, gt_iff_lt, ge_iff_le] at h9
                    apply G.skip
                    refine G.iffT (h1 := ?_)
                    apply G.seq
                    refine G.rg tab_ok ok_isInstr (hk := ?_)
                    refine G.fin tab_ok (hr := ?_)
                    simp only [oneOrTup]
                    congr 1
                    rw [Bool.eq_iff_iff]
                    simp [opsOk, inR, tok, *] <;> omega
                  · try simp only [decide_eq_true_eq, decide_eq_false_iff_not, Bool.and_eq_true, Bool.and_eq_false_imp, Bool.or_eq_true, Bool.or_eq_false_iff, Bool.not_eq_true', Bool.not_eq_false', bne_iff_ne, beq_iff_eq, bne_eq_false_iff_eq, beq_eq_false_iff_ne, ne_eq, Int.ofNat_lt, Int.not_lt, Int.not_le, Int.ofNat_le, Nat.not_lt, Nat.not_le, gt_iff_lt, ge_iff_le] at h9
                    refine G.rg tab_ok ok_isInstr (hk := ?_)
                    refine G.iff (h1 := fun h10 => ?_) (h2 := fun h10 => ?_)
                    · try simp only [decide_eq_true_eq, decide_eq_false_iff_not, Bool.and_eq_true, Bool.and_eq_false_imp, Bool.or_eq_true, Bool.or_eq_false_iff, Bool.not_eq_true', Bool.not_eq_false', bne_iff_ne, beq_iff_eq, bne_eq_false_iff_eq, beq_eq_false_iff_ne, ne_eq, Int.ofNat_lt, Int.not_lt, Int.not_le, Int.ofNat_le, Nat.not_lt, Nat.not_le, gt_iff_lt, ge_iff_le] at h10
                      apply G.seq
                      refine G.rg tab_ok ok_isInstr (hk := ?_)
                      refine G.fin tab_ok (hr := ?_)
                      simp only [oneOrTup]
                      congr 1
                      rw [Bool.eq_iff_iff]
                      simp [opsOk, inR, tok, *] <;> omega
                    · try simp only [decide_eq_true_eq, decide_eq_false_iff_not, Bool.and_eq_true, Bool.and_eq_false_imp, Bool.or_eq_true, Bool.or_eq_false_iff, Bool.not_eq_true', Bool.not_eq_false', bne_iff_ne, beq_iff_eq, bne_eq_false_iff_eq, beq_eq_false_iff_ne, ne_eq, Int.ofNat_lt, Int.not_lt, Int.not_le, Int.ofNat_le, Nat.not_lt, Nat.not_le, gt_iff_lt, ge_iff_le] at h10
                      apply G.seq
                      refine G.rg tab_ok ok_isInstr (hk := ?_)
                      refine G.fg [4, 118] (hk := ?_)
                      refine G.iff (h1 := fun h11 => ?_) (h2 := fun h11 => ?_)
                      · try simp only [decide_eq_true_eq, decide_eq_false_iff_not, Bool.and_eq_true, Bool.and_eq_false_imp, Bool.or_eq_true, Bool.or_eq_false_iff, Bool.not_eq_true', Bool.not_eq_false', bne_iff_ne, beq_iff_eq, bne_eq_false_iff_eq, beq_eq_false_iff_ne, ne_eq, Int.ofNat_lt, Int.not_lt, Int.not_le, Int.ofNat_le, Nat.not_lt, Nat.not_le, gt_iff_lt, ge_iff_le] at h11
                        apply G.seq
                        refine G.rgN 2 tab_ok ok_isInstr (hk := ?_)
                        refine G.opV (x := .bool (((11 : Int) == 11) && ((b == 0) && ((c == 0) && ((d == 0) && true))))) rfl (fun _ _ _ _ h => eqI h rfl rfl rfl) rfl ?_
                        refine G.rgC tab_ok ok_isInstr (hk := ?_)
                        refine G.fin tab_ok (hr := ?_)
                        simp only [oneOrTup]
                        congr 1
                        rw [Bool.eq_iff_iff]
                        simp [opsOk, inR, tok, *] <;> omega
                      · try simp only [decide_eq_true_eq, decide_eq_false_iff_not, Bool.and_eq_true, Bool.and_eq_false_imp, Bool.or_eq_true, Bool.or_eq_false_iff, Bool.not_eq_true', Bool.not_eq_false', bne_iff_ne, beq_iff_eq, bne_eq_false_iff_eq, beq_eq_false_iff_ne, ne_eq, Int.ofNat_lt, Int.not_lt, Int.not_le, Int.ofNat_le, Nat.not_lt, Nat.not_le, gt_iff_lt, ge_iff_le] at h11
                        apply G.skip
                        apply G.blk
                        apply G.seq
                        refine G.rg tab_ok ok_isInstr (hk := ?_)
                        refine G.fin tab_ok (hr := ?_)
                        simp only [oneOrTup]
                        congr 1
                        rw [Bool.eq_iff_iff]
                        simp [opsOk, inR, tok, *] <;> omega
def r_isInstr (xs0 : List A) (rr : A) : Prop := ∃ (a : Int) (b : Int) (c : Int) (d : Int) (i : Int) (o : Int) (n : Int), xs0 = [.agg [.int .i64 a, .int .i64 b, .int .i64 c, .int .i64 d], .int .i64 i, .int .i64 o, .int .i64 n] ∧ rr = .bool (opsOk i o n (a, b, c, d))
noncomputable def q_isInstr : List A → Option A := kgr r_isInstr
theorem k_isInstr : KOk Try.prog (164, q_isInstr) := kgr_ok (enters_of Try.func164 rfl rfl) (by rintro xs0 rr ⟨a, b, c, d, i, o, n, rfl, rfl⟩; exact isInstr_ac a b c d i o n)
theorem e_isInstr : ∀ (a : Int) (b : Int) (c : Int) (d : Int) (i : Int) (o : Int) (n : Int), q_isInstr [.agg [.int .i64 a, .int .i64 b, .int .i64 c, .int .i64 d], .int .i64 i, .int .i64 o, .int .i64 n] = some (.bool (opsOk i o n (a, b, c, d))) := by
  intro a b c d i o n
  refine kgr_eq (fun xs0 rr r2 h h2 => ?_) ⟨a, b, c, d, i, o, n, rfl, rfl⟩
  obtain ⟨a1, b1, c1, d1, i1, o1, n1, e1, rfl⟩ := h; obtain ⟨a2, b2, c2, d2, i2, o2, n2, e2, rfl⟩ := h2
  rw [e1] at e2
  simp only [List.cons.injEq, A.int.injEq, A.bool.injEq, A.agg.injEq, A.row.injEq, A.fn.injEq, A.rp.injEq, insv_inj, iv_inj, true_and, and_true] at e2
  simp [e2]

end Go.Proofs.Yticgaflgbljhlaa.Ab
