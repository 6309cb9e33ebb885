/- Walks of functions of the program: what each answers, for all arguments that meet its conditions. -/
import Derived.Test.YtmijpnghcggdfaaAbP20
namespace Go.Proofs.Ytmijpnghcggdfaa.Ab
open Go
set_option linter.unusedVariables false
set_option linter.unusedSimpArgs false
set_option maxHeartbeats 4000000

theorem ok_specSample : Kn.ok Try.prog (kof [(58, q_l2Make)]) := kof_cons k_l2Make ((kof_nil _))
/-- The sample programs, by their names. -/
def sampleP (s : ByteArray) : Int × Int × List I4 := if s.toList = (ByteArray.mk #[116, 104, 114, 111, 117, 103, 104]).toList then (1, 1, [(1, 0, 0, 0), (2, 0, 0, 0), (8, 0, 0, 0)]) else if s.toList = (ByteArray.mk #[99, 111, 112, 121]).toList then (1, 2, [(1, 0, 0, 0), (2, 0, 0, 0), (2, 0, 1, 0), (8, 0, 0, 0)]) else if s.toList = (ByteArray.mk #[115, 105, 110, 107]).toList then (1, 0, [(1, 0, 0, 0), (8, 0, 0, 0)]) else if s.toList = (ByteArray.mk #[97, 100, 100]).toList then (2, 1, [(1, 0, 0, 0), (1, 1, 1, 0), (4, 0, 0, 1), (2, 0, 0, 0), (8, 0, 0, 0)]) else if s.toList = (ByteArray.mk #[97, 108, 116, 101, 114, 110, 97, 116, 101]).toList then (2, 1, [(1, 0, 0, 0), (2, 0, 0, 0), (1, 0, 1, 0), (2, 0, 0, 0), (8, 0, 0, 0)]) else if s.toList = (ByteArray.mk #[115, 112, 108, 105, 116]).toList then (1, 2, [(1, 0, 0, 0), (2, 0, 0, 0), (1, 0, 0, 0), (2, 0, 1, 0), (8, 0, 0, 0)]) else if s.toList = (ByteArray.mk #[115, 117, 109, 115]).toList then (1, 1, [(1, 1, 0, 0), (4, 0, 0, 1), (2, 0, 0, 0), (8, 0, 0, 0)]) else if s.toList = (ByteArray.mk #[115, 116, 101, 112, 115]).toList then (1, 1, [(1, 1, 0, 0), (5, 2, 1, 0), (2, 2, 0, 0), (3, 3, 0, 0), (4, 0, 1, 3), (8, 0, 0, 0)]) else if s.toList = (ByteArray.mk #[116, 119, 105, 99, 101]).toList then (1, 1, [(1, 0, 0, 0), (2, 0, 0, 0), (2, 0, 0, 0), (8, 0, 0, 0)]) else if s.toList = (ByteArray.mk #[99, 111, 117, 110, 116]).toList then (0, 1, [(2, 0, 0, 0), (3, 1, 1, 0), (4, 0, 0, 1), (8, 0, 0, 0)]) else if s.toList = (ByteArray.mk #[112, 105, 99, 107]).toList then (3, 1, [(1, 0, 0, 0), (9, 0, 4, 0), (1, 1, 2, 0), (8, 0, 5, 0), (1, 1, 1, 0), (2, 1, 0, 0), (8, 0, 0, 0)]) else (0, 0, [])

theorem specSample_ac (s : ByteArray)  : AC Try.prog 18 [.str s] (.agg [.int .i64 (sampleP s).1, .int .i64 (sampleP s).2.1, .row true 4 ((sampleP s).2.2.map insv)]) := by
  have e_l2Make := e_l2Make
  refine AC.of tab_ok Try.func18 rfl (Nat.le_of_ble_eq_true rfl) fun w0 S0 => ?_
  change G _ _ ⟨[(0, .str s)], [], 87⟩
  apply G.seq
  refine G.rg tab_ok ok_specSample (hk := ?_)
  apply G.seq
  apply G.seq
  refine G.rg tab_ok ok_specSample (hk := ?_)
  apply G.block
  apply G.seq
  refine G.rg tab_ok ok_specSample (hk := ?_)
  refine G.iff (h1 := fun h1 => ?_) (h2 := fun h1 => ?_)
  · try simp only [decide_eq_true_eq, decide_eq_false_iff_not, Bool.and_eq_true, Bool.and_eq_false_imp, Bool.or_eq_true, Bool.or_eq_false_iff, Bool.not_eq_true', Bool.not_eq_false', bne_iff_ne, beq_iff_eq, bne_eq_false_iff_eq, beq_eq_false_iff_ne, ne_eq, Int.ofNat_lt, Int.not_lt, Int.not_le, Int.ofNat_le, Nat.not_lt, Nat.not_le, gt_iff_lt, ge_iff_le] at h1
    apply G.seq
    have e1 : q_l2Make [.int .i64 1, .int .i64 1, .row false 1 [[.row false 1 [[.int .i64 1]]], [.row false 1 [[.int .i64 2]]]]] = some (.agg [.int .i64 1, .int .i64 1, .row true 4 [[.int .i64 1, .int .i64 0, .int .i64 0, .int .i64 0], [.int .i64 2, .int .i64 0, .int .i64 0, .int .i64 0], [.int .i64 8, .int .i64 0, .int .i64 0, .int .i64 0]]]) := e_l2Make 1 1 [[1], [2]] (by decide) (by decide)
    refine G.rgN 3 tab_ok ok_specSample (hk := ?_)
    refine G.fb 3 (h := ?_)
    refine G.rgC tab_ok ok_specSample (hk := ?_)
    refine G.fin tab_ok (hr := ?_)
    simp only [oneOrTup]
    unfold sampleP
    rw [if_pos h1]
    rfl
  · try simp only [decide_eq_true_eq, decide_eq_false_iff_not, Bool.and_eq_true, Bool.and_eq_false_imp, Bool.or_eq_true, Bool.or_eq_false_iff, Bool.not_eq_true', Bool.not_eq_false', bne_iff_ne, beq_iff_eq, bne_eq_false_iff_eq, beq_eq_false_iff_ne, ne_eq, Int.ofNat_lt, Int.not_lt, Int.not_le, Int.ofNat_le, Nat.not_lt, Nat.not_le, gt_iff_lt, ge_iff_le] at h1
    apply G.seq
    refine G.rg tab_ok ok_specSample (hk := ?_)
    refine G.iff (h1 := fun h2 => ?_) (h2 := fun h2 => ?_)
    · try simp only [decide_eq_true_eq, decide_eq_false_iff_not, Bool.and_eq_true, Bool.and_eq_false_imp, Bool.or_eq_true, Bool.or_eq_false_iff, Bool.not_eq_true', Bool.not_eq_false', bne_iff_ne, beq_iff_eq, bne_eq_false_iff_eq, beq_eq_false_iff_ne, ne_eq, Int.ofNat_lt, Int.not_lt, Int.not_le, Int.ofNat_le, Nat.not_lt, Nat.not_le, gt_iff_lt, ge_iff_le] at h2
      apply G.seq
      have e1 : q_l2Make [.int .i64 1, .int .i64 2, .row false 1 [[.row false 1 [[.int .i64 1]]], [.row false 1 [[.int .i64 2]]], [.row false 1 [[.int .i64 2], [.int .i64 0], [.int .i64 1]]]]] = some (.agg [.int .i64 1, .int .i64 2, .row true 4 [[.int .i64 1, .int .i64 0, .int .i64 0, .int .i64 0], [.int .i64 2, .int .i64 0, .int .i64 0, .int .i64 0], [.int .i64 2, .int .i64 0, .int .i64 1, .int .i64 0], [.int .i64 8, .int .i64 0, .int .i64 0, .int .i64 0]]]) := e_l2Make 1 2 [[1], [2], [2, 0, 1]] (by decide) (by decide)
      refine G.rgN 4 tab_ok ok_specSample (hk := ?_)
      refine G.fb 4 (h := ?_)
      refine G.rgC tab_ok ok_specSample (hk := ?_)
      refine G.fin tab_ok (hr := ?_)
      simp only [oneOrTup]
      unfold sampleP
      rw [if_neg h1, if_pos h2]
      rfl
    · try simp only [decide_eq_true_eq, decide_eq_false_iff_not, Bool.and_eq_true, Bool.and_eq_false_imp, Bool.or_eq_true, Bool.or_eq_false_iff, Bool.not_eq_true', Bool.not_eq_false', bne_iff_ne, beq_iff_eq, bne_eq_false_iff_eq, beq_eq_false_iff_ne, ne_eq, Int.ofNat_lt, Int.not_lt, Int.not_le, Int.ofNat_le, Nat.not_lt, Nat.not_le, gt_iff_lt, ge_iff_le] at h2
      apply G.seq
      refine G.rg tab_ok ok_specSample (hk := ?_)
      refine G.iff (h1 := fun h3 => ?_) (h2 := fun h3 => ?_)
      · try simp only [decide_eq_true_eq, decide_eq_false_iff_not, Bool.and_eq_true, Bool.and_eq_false_imp, Bool.or_eq_true, Bool.or_eq_false_iff, Bool.not_eq_true', Bool.not_eq_false', bne_iff_ne, beq_iff_eq, bne_eq_false_iff_eq, beq_eq_false_iff_ne, ne_eq, Int.ofNat_lt, Int.not_lt, Int.not_le, Int.ofNat_le, Nat.not_lt, Nat.not_le, gt_iff_lt, ge_iff_le] at h3
        apply G.seq
        have e1 : q_l2Make [.int .i64 1, .int .i64 0, .row false 1 [[.row false 1 [[.int .i64 1]]]]] = some (.agg [.int .i64 1, .int .i64 0, .row true 4 [[.int .i64 1, .int .i64 0, .int .i64 0, .int .i64 0], [.int .i64 8, .int .i64 0, .int .i64 0, .int .i64 0]]]) := e_l2Make 1 0 [[1]] (by decide) (by decide)
        refine G.rgN 2 tab_ok ok_specSample (hk := ?_)
        refine G.fb 2 (h := ?_)
        refine G.rgC tab_ok ok_specSample (hk := ?_)
        refine G.fin tab_ok (hr := ?_)
        simp only [oneOrTup]
        unfold sampleP
        rw [if_neg h1, if_neg h2, if_pos h3]
        rfl
      · try simp only [decide_eq_true_eq, decide_eq_false_iff_not, Bool.and_eq_true, Bool.and_eq_false_imp, Bool.or_eq_true, Bool.or_eq_false_iff, Bool.not_eq_true', Bool.not_eq_false', bne_iff_ne, beq_iff_eq, bne_eq_false_iff_eq, beq_eq_false_iff_ne, ne_eq, Int.ofNat_lt, Int.not_lt, Int.not_le, Int.ofNat_le, Nat.not_lt, Nat.not_le, gt_iff_lt, ge_iff_le] at h3
        apply G.seq
        refine G.rg tab_ok ok_specSample (hk := ?_)
        refine G.fg [2, 3, 22] (hk := ?_)
        refine G.iff (h1 := fun h4 => ?_) (h2 := fun h4 => ?_)
        · try simp only [decide_eq_true_eq, decide_eq_false_iff_not, Bool.and_eq_true, Bool.and_eq_false_imp, Bool.or_eq_true, Bool.or_eq_false_iff, Bool.not_eq_true', Bool.not_eq_false', bne_iff_ne, beq_iff_eq, bne_eq_false_iff_eq, beq_eq_false_iff_ne, ne_eq, Int.ofNat_lt, Int.not_lt, Int.not_le, Int.ofNat_le, Nat.not_lt, Nat.not_le, gt_iff_lt, ge_iff_le] at h4
          apply G.seq
          have e1 : q_l2Make [.int .i64 2, .int .i64 1, .row false 1 [[.row false 1 [[.int .i64 1]]], [.row false 1 [[.int .i64 1], [.int .i64 1], [.int .i64 1]]], [.row false 1 [[.int .i64 4], [.int .i64 0], [.int .i64 0], [.int .i64 1]]], [.row false 1 [[.int .i64 2]]]]] = some (.agg [.int .i64 2, .int .i64 1, .row true 4 [[.int .i64 1, .int .i64 0, .int .i64 0, .int .i64 0], [.int .i64 1, .int .i64 1, .int .i64 1, .int .i64 0], [.int .i64 4, .int .i64 0, .int .i64 0, .int .i64 1], [.int .i64 2, .int .i64 0, .int .i64 0, .int .i64 0], [.int .i64 8, .int .i64 0, .int .i64 0, .int .i64 0]]]) := e_l2Make 2 1 [[1], [1, 1, 1], [4, 0, 0, 1], [2]] (by decide) (by decide)
          refine G.rgN 5 tab_ok ok_specSample (hk := ?_)
          refine G.fb 5 (h := ?_)
          refine G.rgC tab_ok ok_specSample (hk := ?_)
          refine G.fin tab_ok (hr := ?_)
          simp only [oneOrTup]
          unfold sampleP
          rw [if_neg h1, if_neg h2, if_neg h3, if_pos h4]
          rfl
        · try simp only [decide_eq_true_eq, decide_eq_false_iff_not, Bool.and_eq_true, Bool.and_eq_false_imp, Bool.or_eq_true, Bool.or_eq_false_iff, Bool.not_eq_true', Bool.not_eq_false', bne_iff_ne, beq_iff_eq, bne_eq_false_iff_eq, beq_eq_false_iff_ne, ne_eq, Int.ofNat_lt, Int.not_lt, Int.not_le, Int.ofNat_le, Nat.not_lt, Nat.not_le, gt_iff_lt, ge_iff_le] at h4
          apply G.seq
          refine G.rg tab_ok ok_specSample (hk := ?_)
          refine G.iff (h1 := fun h5 => ?_) (h2 := fun h5 => ?_)
          · try simp only [decide_eq_true_eq, decide_eq_false_iff_not, Bool.and_eq_true, Bool.and_eq_false_imp, Bool.or_eq_true, Bool.or_eq_false_iff, Bool.not_eq_true', Bool.not_eq_false', bne_iff_ne, beq_iff_eq, bne_eq_false_iff_eq, beq_eq_false_iff_ne, ne_eq, Int.ofNat_lt, Int.not_lt, Int.not_le, Int.ofNat_le, Nat.not_lt, Nat.not_le, gt_iff_lt, ge_iff_le] at h5
            apply G.seq
            have e1 : q_l2Make [.int .i64 2, .int .i64 1, .row false 1 [[.row false 1 [[.int .i64 1]]], [.row false 1 [[.int .i64 2]]], [.row false 1 [[.int .i64 1], [.int .i64 0], [.int .i64 1]]], [.row false 1 [[.int .i64 2]]]]] = some (.agg [.int .i64 2, .int .i64 1, .row true 4 [[.int .i64 1, .int .i64 0, .int .i64 0, .int .i64 0], [.int .i64 2, .int .i64 0, .int .i64 0, .int .i64 0], [.int .i64 1, .int .i64 0, .int .i64 1, .int .i64 0], [.int .i64 2, .int .i64 0, .int .i64 0, .int .i64 0], [.int .i64 8, .int .i64 0, .int .i64 0, .int .i64 0]]]) := e_l2Make 2 1 [[1], [2], [1, 0, 1], [2]] (by decide) (by decide)
            refine G.rgN 5 tab_ok ok_specSample (hk := ?_)
            refine G.fb 5 (h := ?_)
            refine G.rgC tab_ok ok_specSample (hk := ?_)
            refine G.fin tab_ok (hr := ?_)
            simp only [oneOrTup]
            unfold sampleP
            rw [if_neg h1, if_neg h2, if_neg h3, if_neg h4, if_pos h5]
            rfl
          · try simp only [decide_eq_true_eq, decide_eq_false_iff_not, Bool.and_eq_true, Bool.and_eq_false_imp, Bool.or_eq_true, Bool.or_eq_false_iff, Bool.not_eq_true', Bool.not_eq_false', bne_iff_ne, beq_iff_eq, bne_eq_false_iff_eq, beq_eq_false_iff_ne, ne_eq, Int.ofNat_lt, Int.not_lt, Int.not_le, Int.ofNat_le, Nat.not_lt, Nat.not_le, gt_iff_lt, ge_iff_le] at h5
            apply G.seq
            refine G.rg tab_ok ok_specSample (hk := ?_)
            refine G.iff (h1 := fun h6 => ?_) (h2 := fun h6 => ?_)
            · try simp only [decide_eq_true_eq, decide_eq_false_iff_not, Bool.and_eq_true, Bool.and_eq_false_imp, Bool.or_eq_true, Bool.or_eq_false_iff, Bool.not_eq_true', Bool.not_eq_false', bne_iff_ne, beq_iff_eq, bne_eq_false_iff_eq, beq_eq_false_iff_ne, ne_eq, Int.ofNat_lt, Int.not_lt, Int.not_le, Int.ofNat_le, Nat.not_lt, Nat.not_le, gt_iff_lt, ge_iff_le] at h6
              apply G.seq
              have e1 : q_l2Make [.int .i64 1, .int .i64 2, .row false 1 [[.row false 1 [[.int .i64 1]]], [.row false 1 [[.int .i64 2]]], [.row false 1 [[.int .i64 1]]], [.row false 1 [[.int .i64 2], [.int .i64 0], [.int .i64 1]]]]] = some (.agg [.int .i64 1, .int .i64 2, .row true 4 [[.int .i64 1, .int .i64 0, .int .i64 0, .int .i64 0], [.int .i64 2, .int .i64 0, .int .i64 0, .int .i64 0], [.int .i64 1, .int .i64 0, .int .i64 0, .int .i64 0], [.int .i64 2, .int .i64 0, .int .i64 1, .int .i64 0], [.int .i64 8, .int .i64 0, .int .i64 0, .int .i64 0]]]) := e_l2Make 1 2 [[1], [2], [1], [2, 0, 1]] (by decide) (by decide)
              refine G.rgN 5 tab_ok ok_specSample (hk := ?_)
              refine G.fb 5 (h := ?_)
              refine G.rgC tab_ok ok_specSample (hk := ?_)
              refine G.fin tab_ok (hr := ?_)
              simp only [oneOrTup]
              unfold sampleP
              rw [if_neg h1, if_neg h2, if_neg h3, if_neg h4, if_neg h5, if_pos h6]
              rfl
            · try simp only [decide_eq_true_eq, decide_eq_false_iff_not, Bool.and_eq_true, Bool.and_eq_false_imp, Bool.or_eq_true, Bool.or_eq_false_iff, Bool.not_eq_true', Bool.not_eq_false', bne_iff_ne, beq_iff_eq, bne_eq_false_iff_eq, beq_eq_false_iff_ne, ne_eq, Int.ofNat_lt, Int.not_lt, Int.not_le, Int.ofNat_le, Nat.not_lt, Nat.not_le, gt_iff_lt, ge_iff_le] at h6
              apply G.seq
              refine G.rg tab_ok ok_specSample (hk := ?_)
              refine G.iff (h1 := fun h7 => ?_) (h2 := fun h7 => ?_)
              · try simp only [decide_eq_true_eq, decide_eq_false_iff_not, Bool.and_eq_true, Bool.and_eq_false_imp, Bool.or_eq_true, Bool.or_eq_false_iff, Bool.not_eq_true', Bool.not_eq_false', bne_iff_ne, beq_iff_eq, bne_eq_false_iff_eq, beq_eq_false_iff_ne, ne_eq, Int.ofNat_lt, Int.not_lt, Int.not_le, Int.ofNat_le, Nat.not_lt, Nat.not_le, gt_iff_lt, ge_iff_le] at h7
                apply G.seq
                have e1 : q_l2Make [.int .i64 1, .int .i64 1, .row false 1 [[.row false 1 [[.int .i64 1], [.int .i64 1]]], [.row false 1 [[.int .i64 4], [.int .i64 0], [.int .i64 0], [.int .i64 1]]], [.row false 1 [[.int .i64 2]]]]] = some (.agg [.int .i64 1, .int .i64 1, .row true 4 [[.int .i64 1, .int .i64 1, .int .i64 0, .int .i64 0], [.int .i64 4, .int .i64 0, .int .i64 0, .int .i64 1], [.int .i64 2, .int .i64 0, .int .i64 0, .int .i64 0], [.int .i64 8, .int .i64 0, .int .i64 0, .int .i64 0]]]) := e_l2Make 1 1 [[1, 1], [4, 0, 0, 1], [2]] (by decide) (by decide)
                refine G.rgN 4 tab_ok ok_specSample (hk := ?_)
                refine G.fb 4 (h := ?_)
                refine G.rgC tab_ok ok_specSample (hk := ?_)
                refine G.fin tab_ok (hr := ?_)
                simp only [oneOrTup]
                unfold sampleP
                rw [if_neg h1, if_neg h2, if_neg h3, if_neg h4, if_neg h5, if_neg h6, if_pos h7]
                rfl
              · try simp only [decide_eq_true_eq, decide_eq_false_iff_not, Bool.and_eq_true, Bool.and_eq_false_imp, Bool.or_eq_true, Bool.or_eq_false_iff, Bool.not_eq_true', Bool.not_eq_false', bne_iff_ne, beq_iff_eq, bne_eq_false_iff_eq, beq_eq_false_iff_ne, ne_eq, Int.ofNat_lt, Int.not_lt, Int.not_le, Int.ofNat_le, Nat.not_lt, Nat.not_le, gt_iff_lt, ge_iff_le] at h7
                apply G.seq
                refine G.rg tab_ok ok_specSample (hk := ?_)
                refine G.iff (h1 := fun h8 => ?_) (h2 := fun h8 => ?_)
                · try simp only [decide_eq_true_eq, decide_eq_false_iff_not, Bool.and_eq_true, Bool.and_eq_false_imp, Bool.or_eq_true, Bool.or_eq_false_iff, Bool.not_eq_true', Bool.not_eq_false', bne_iff_ne, beq_iff_eq, bne_eq_false_iff_eq, beq_eq_false_iff_ne, ne_eq, Int.ofNat_lt, Int.not_lt, Int.not_le, Int.ofNat_le, Nat.not_lt, Nat.not_le, gt_iff_lt, ge_iff_le] at h8
                  apply G.seq
                  have e1 : q_l2Make [.int .i64 1, .int .i64 1, .row false 1 [[.row false 1 [[.int .i64 1], [.int .i64 1]]], [.row false 1 [[.int .i64 5], [.int .i64 2], [.int .i64 1], [.int .i64 0]]], [.row false 1 [[.int .i64 2], [.int .i64 2]]], [.row false 1 [[.int .i64 3], [.int .i64 3]]], [.row false 1 [[.int .i64 4], [.int .i64 0], [.int .i64 1], [.int .i64 3]]]]] = some (.agg [.int .i64 1, .int .i64 1, .row true 4 [[.int .i64 1, .int .i64 1, .int .i64 0, .int .i64 0], [.int .i64 5, .int .i64 2, .int .i64 1, .int .i64 0], [.int .i64 2, .int .i64 2, .int .i64 0, .int .i64 0], [.int .i64 3, .int .i64 3, .int .i64 0, .int .i64 0], [.int .i64 4, .int .i64 0, .int .i64 1, .int .i64 3], [.int .i64 8, .int .i64 0, .int .i64 0, .int .i64 0]]]) := e_l2Make 1 1 [[1, 1], [5, 2, 1, 0], [2, 2], [3, 3], [4, 0, 1, 3]] (by decide) (by decide)
                  refine G.rgN 6 tab_ok ok_specSample (hk := ?_)
                  refine G.fb 6 (h := ?_)
                  refine G.rgC tab_ok ok_specSample (hk := ?_)
                  refine G.fin tab_ok (hr := ?_)
                  simp only [oneOrTup]
                  unfold sampleP
                  rw [if_neg h1, if_neg h2, if_neg h3, if_neg h4, if_neg h5, if_neg h6, if_neg h7, if_pos h8]
                  rfl
                · try simp only [decide_eq_true_eq, decide_eq_false_iff_not, Bool.and_eq_true, Bool.and_eq_false_imp, Bool.or_eq_true, Bool.or_eq_false_iff, Bool.not_eq_true', Bool.not_eq_false', bne_iff_ne, beq_iff_eq, bne_eq_false_iff_eq, beq_eq_false_iff_ne, ne_eq, Int.ofNat_lt, Int.not_lt, Int.not_le, Int.ofNat_le, Nat.not_lt, Nat.not_le, gt_iff_lt, ge_iff_le] at h8
                  apply G.seq
                  refine G.rg tab_ok ok_specSample (hk := ?_)
                  refine G.fg [2, 3, 62] (hk := ?_)
                  refine G.iff (h1 := fun h9 => ?_) (h2 := fun h9 => ?_)
                  · try simp only [decide_eq_true_eq, decide_eq_false_iff_not, Bool.and_eq_true, Bool.and_eq_false_imp, Bool.or_eq_true, Bool.or_eq_false_iff, Bool.not_eq_true', Bool.not_eq_false', bne_iff_ne, beq_iff_eq, bne_eq_false_iff_eq, beq_eq_false_iff_ne, ne_eq, Int.ofNat_lt, Int.not_lt, Int.not_le, Int.ofNat_le, Nat.not_lt, Nat.not_le, gt_iff_lt, ge_iff_le] at h9
                    apply G.seq
                    have e1 : q_l2Make [.int .i64 1, .int .i64 1, .row false 1 [[.row false 1 [[.int .i64 1]]], [.row false 1 [[.int .i64 2]]], [.row false 1 [[.int .i64 2]]]]] = some (.agg [.int .i64 1, .int .i64 1, .row true 4 [[.int .i64 1, .int .i64 0, .int .i64 0, .int .i64 0], [.int .i64 2, .int .i64 0, .int .i64 0, .int .i64 0], [.int .i64 2, .int .i64 0, .int .i64 0, .int .i64 0], [.int .i64 8, .int .i64 0, .int .i64 0, .int .i64 0]]]) := e_l2Make 1 1 [[1], [2], [2]] (by decide) (by decide)
                    refine G.rgN 4 tab_ok ok_specSample (hk := ?_)
                    refine G.fb 4 (h := ?_)
                    refine G.rgC tab_ok ok_specSample (hk := ?_)
                    refine G.fin tab_ok (hr := ?_)
                    simp only [oneOrTup]
                    unfold sampleP
                    rw [if_neg h1, if_neg h2, if_neg h3, if_neg h4, if_neg h5, if_neg h6, if_neg h7, if_neg h8, if_pos h9]
                    rfl
                  · try simp only [decide_eq_true_eq, decide_eq_false_iff_not, Bool.and_eq_true, Bool.and_eq_false_imp, Bool.or_eq_true, Bool.or_eq_false_iff, Bool.not_eq_true', Bool.not_eq_false', bne_iff_ne, beq_iff_eq, bne_eq_false_iff_eq, beq_eq_false_iff_ne, ne_eq, Int.ofNat_lt, Int.not_lt, Int.not_le, Int.ofNat_le, Nat.not_lt, Nat.not_le, gt_iff_lt, ge_iff_le] at h9
                    apply G.seq
                    refine G.rg tab_ok ok_specSample (hk := ?_)
                    refine G.iff (h1 := fun h10 => ?_) (h2 := fun h10 => ?_)
                    · try simp only [decide_eq_true_eq, decide_eq_false_iff_not, Bool.and_eq_true, Bool.and_eq_false_imp, Bool.or_eq_true, Bool.or_eq_false_iff, Bool.not_eq_true', Bool.not_eq_false', bne_iff_ne, beq_iff_eq, bne_eq_false_iff_eq, beq_eq_false_iff_ne, ne_eq, Int.ofNat_lt, Int.not_lt, Int.not_le, Int.ofNat_le, Nat.not_lt, Nat.not_le, gt_iff_lt, ge_iff_le] at h10
                      apply G.seq
                      have e1 : q_l2Make [.int .i64 0, .int .i64 1, .row false 1 [[.row false 1 [[.int .i64 2]]], [.row false 1 [[.int .i64 3], [.int .i64 1], [.int .i64 1]]], [.row false 1 [[.int .i64 4], [.int .i64 0], [.int .i64 0], [.int .i64 1]]]]] = some (.agg [.int .i64 0, .int .i64 1, .row true 4 [[.int .i64 2, .int .i64 0, .int .i64 0, .int .i64 0], [.int .i64 3, .int .i64 1, .int .i64 1, .int .i64 0], [.int .i64 4, .int .i64 0, .int .i64 0, .int .i64 1], [.int .i64 8, .int .i64 0, .int .i64 0, .int .i64 0]]]) := e_l2Make 0 1 [[2], [3, 1, 1], [4, 0, 0, 1]] (by decide) (by decide)
                      refine G.rgN 4 tab_ok ok_specSample (hk := ?_)
                      refine G.fb 4 (h := ?_)
                      refine G.rgC tab_ok ok_specSample (hk := ?_)
                      refine G.fin tab_ok (hr := ?_)
                      simp only [oneOrTup]
                      unfold sampleP
                      rw [if_neg h1, if_neg h2, if_neg h3, if_neg h4, if_neg h5, if_neg h6, if_neg h7, if_neg h8, if_neg h9, if_pos h10]
                      rfl
                    · try simp only [decide_eq_true_eq, decide_eq_false_iff_not, Bool.and_eq_true, Bool.and_eq_false_imp, Bool.or_eq_true, Bool.or_eq_false_iff, Bool.not_eq_true', Bool.not_eq_false', bne_iff_ne, beq_iff_eq, bne_eq_false_iff_eq, beq_eq_false_iff_ne, ne_eq, Int.ofNat_lt, Int.not_lt, Int.not_le, Int.ofNat_le, Nat.not_lt, Nat.not_le, gt_iff_lt, ge_iff_le] at h10
                      apply G.seq
                      refine G.rg tab_ok ok_specSample (hk := ?_)
                      refine G.iff (h1 := fun h11 => ?_) (h2 := fun h11 => ?_)
                      · try simp only [decide_eq_true_eq, decide_eq_false_iff_not, Bool.and_eq_true, Bool.and_eq_false_imp, Bool.or_eq_true, Bool.or_eq_false_iff, Bool.not_eq_true', Bool.not_eq_false', bne_iff_ne, beq_iff_eq, bne_eq_false_iff_eq, beq_eq_false_iff_ne, ne_eq, Int.ofNat_lt, Int.not_lt, Int.not_le, Int.ofNat_le, Nat.not_lt, Nat.not_le, gt_iff_lt, ge_iff_le] at h11
                        apply G.seq
                        have e1 : q_l2Make [.int .i64 3, .int .i64 1, .row false 1 [[.row false 1 [[.int .i64 1]]], [.row false 1 [[.int .i64 9], [.int .i64 0], [.int .i64 4]]], [.row false 1 [[.int .i64 1], [.int .i64 1], [.int .i64 2]]], [.row false 1 [[.int .i64 8], [.int .i64 0], [.int .i64 5]]], [.row false 1 [[.int .i64 1], [.int .i64 1], [.int .i64 1]]], [.row false 1 [[.int .i64 2], [.int .i64 1]]]]] = some (.agg [.int .i64 3, .int .i64 1, .row true 4 [[.int .i64 1, .int .i64 0, .int .i64 0, .int .i64 0], [.int .i64 9, .int .i64 0, .int .i64 4, .int .i64 0], [.int .i64 1, .int .i64 1, .int .i64 2, .int .i64 0], [.int .i64 8, .int .i64 0, .int .i64 5, .int .i64 0], [.int .i64 1, .int .i64 1, .int .i64 1, .int .i64 0], [.int .i64 2, .int .i64 1, .int .i64 0, .int .i64 0], [.int .i64 8, .int .i64 0, .int .i64 0, .int .i64 0]]]) := e_l2Make 3 1 [[1], [9, 0, 4], [1, 1, 2], [8, 0, 5], [1, 1, 1], [2, 1]] (by decide) (by decide)
                        refine G.rgN 7 tab_ok ok_specSample (hk := ?_)
                        refine G.fb 7 (h := ?_)
                        refine G.rgC tab_ok ok_specSample (hk := ?_)
                        refine G.fin tab_ok (hr := ?_)
                        simp only [oneOrTup]
                        unfold sampleP
                        rw [if_neg h1, if_neg h2, if_neg h3, if_neg h4, if_neg h5, if_neg h6, if_neg h7, if_neg h8, if_neg h9, if_neg h10, if_pos h11]
                        rfl
                      · try simp only [decide_eq_true_eq, decide_eq_false_iff_not, Bool.and_eq_true, Bool.and_eq_false_imp, Bool.or_eq_true, Bool.or_eq_false_iff, Bool.not_eq_true', Bool.not_eq_false', bne_iff_ne, beq_iff_eq, bne_eq_false_iff_eq, beq_eq_false_iff_ne, ne_eq, Int.ofNat_lt, Int.not_lt, Int.not_le, Int.ofNat_le, Nat.not_lt, Nat.not_le, gt_iff_lt, ge_iff_le] at h11
                        apply G.skip
                        apply G.blk
                        apply G.seq
                        refine G.rg tab_ok ok_specSample (hk := ?_)
                        refine G.focusNil 0 0 2 4 rfl rfl rfl ?_
                        refine G.fin tab_ok (hr := ?_)
                        simp only [oneOrTup]
                        unfold sampleP
                        rw [if_neg h1, if_neg h2, if_neg h3, if_neg h4, if_neg h5, if_neg h6, if_neg h7, if_neg h8, if_neg h9, if_neg h10, if_neg h11]
                        rfl
def r_specSample (xs0 : List A) (rr : A) : Prop := ∃ (s : ByteArray), xs0 = [.str s] ∧ rr = .agg [.int .i64 (sampleP s).1, .int .i64 (sampleP s).2.1, .row true 4 ((sampleP s).2.2.map insv)]
noncomputable def q_specSample : List A → Option A := kgr r_specSample
theorem k_specSample : KOk Try.prog (18, q_specSample) := kgr_ok (enters_of Try.func18 rfl rfl) (by rintro xs0 rr ⟨s, rfl, rfl⟩; exact specSample_ac s)
theorem e_specSample : ∀ (s : ByteArray), q_specSample [.str s] = some (.agg [.int .i64 (sampleP s).1, .int .i64 (sampleP s).2.1, .row true 4 ((sampleP s).2.2.map insv)]) := by
  intro s
  refine kgr_eq (fun xs0 rr r2 h h2 => ?_) ⟨s, rfl, rfl⟩
  obtain ⟨s1, e1, rfl⟩ := h; obtain ⟨s2, e2, rfl⟩ := h2
  rw [e1] at e2
  simp only [List.cons.injEq, A.str.injEq, and_true] at e2
  simp [e2]

end Go.Proofs.Ytmijpnghcggdfaa.Ab
