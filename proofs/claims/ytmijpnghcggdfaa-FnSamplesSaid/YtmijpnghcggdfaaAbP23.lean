/- Walks of functions of the program: what each answers, for all arguments that meet its conditions. -/
import Derived.Test.YtmijpnghcggdfaaAbP21
import Derived.Test.YtmijpnghcggdfaaAbP22
namespace Go.Proofs.Ytmijpnghcggdfaa.Ab
open Go
set_option linter.unusedVariables false
set_option linter.unusedSimpArgs false
set_option maxHeartbeats 4000000

theorem ok_implSample : Kn.ok Try.prog (kof [(59, q_sampleRead), (60, q_sampleWrite)]) := kof_cons k_sampleRead (kof_cons k_sampleWrite ((kof_nil _)))
theorem en_sampleMade : Enters Try.prog 61 := enters_of Try.func61 rfl rfl
theorem implSample_ac (s : ByteArray)  : AC Try.prog 19 [.str s] (.agg [.int .i64 (sampleP s).1, .int .i64 (sampleP s).2.1, .row true 4 ((sampleP s).2.2.map insv)]) := by
  have e_sampleRead := e_sampleRead
  have e_sampleWrite := e_sampleWrite
  refine AC.of tab_ok Try.func19 rfl (Nat.le_of_ble_eq_true rfl) fun w0 S0 => ?_
  change G _ _ ⟨[(0, .str s)], [], 130⟩
  apply G.seq
  refine G.rg tab_ok ok_implSample (hk := ?_)
  apply G.seq
  refine G.rg tab_ok ok_implSample (hk := ?_)
  apply G.seq
  refine G.rg tab_ok ok_implSample (hk := ?_)
  apply G.seq
  refine G.rg tab_ok ok_implSample (hk := ?_)
  apply G.seq
  apply G.seq
  refine G.rg tab_ok ok_implSample (hk := ?_)
  apply G.block
  apply G.seq
  refine G.rg tab_ok ok_implSample (hk := ?_)
  refine G.iff (h1 := fun h1 => ?_) (h2 := fun h1 => ?_)
  · try simp only [decide_eq_true_eq, decide_eq_false_iff_not, Bool.and_eq_true, Bool.and_eq_false_imp, Bool.or_eq_true, Bool.or_eq_false_iff, Bool.not_eq_true', Bool.not_eq_false', bne_iff_ne, beq_iff_eq, bne_eq_false_iff_eq, beq_eq_false_iff_ne, ne_eq, Int.ofNat_lt, Int.not_lt, Int.not_le, Int.ofNat_le, Nat.not_lt, Nat.not_le, gt_iff_lt, ge_iff_le] at h1
    apply G.seq
    refine G.rgN 6 tab_ok ok_implSample (hk := ?_)
    apply G.callM (f := 0) (fid := 61)
    case he => exact en_sampleMade
    case ho => rfl
    case hg => rfl
    case hf => rfl
    case hc => exact sampleMade_mc _ 1 1 [(1, 0, 0, 0), (2, 0, 0, 0)] rfl (by decide)
    case hp => rfl
    refine G.rgC tab_ok ok_implSample (hk := ?_)
    refine G.fin tab_ok (hr := ?_)
    simp only [oneOrTup]
    unfold sampleP
    rw [if_pos h1]
    rfl
  · try simp only [decide_eq_true_eq, decide_eq_false_iff_not, Bool.and_eq_true, Bool.and_eq_false_imp, Bool.or_eq_true, Bool.or_eq_false_iff, Bool.not_eq_true', Bool.not_eq_false', bne_iff_ne, beq_iff_eq, bne_eq_false_iff_eq, beq_eq_false_iff_ne, ne_eq, Int.ofNat_lt, Int.not_lt, Int.not_le, Int.ofNat_le, Nat.not_lt, Nat.not_le, gt_iff_lt, ge_iff_le] at h1
    apply G.seq
    refine G.rg tab_ok ok_implSample (hk := ?_)
    refine G.fg [2, 3, 4, 5, 6, 16] (hk := ?_)
    refine G.iff (h1 := fun h2 => ?_) (h2 := fun h2 => ?_)
    · try simp only [decide_eq_true_eq, decide_eq_false_iff_not, Bool.and_eq_true, Bool.and_eq_false_imp, Bool.or_eq_true, Bool.or_eq_false_iff, Bool.not_eq_true', Bool.not_eq_false', bne_iff_ne, beq_iff_eq, bne_eq_false_iff_eq, beq_eq_false_iff_ne, ne_eq, Int.ofNat_lt, Int.not_lt, Int.not_le, Int.ofNat_le, Nat.not_lt, Nat.not_le, gt_iff_lt, ge_iff_le] at h2
      apply G.seq
      refine G.rgN 8 tab_ok ok_implSample (hk := ?_)
      apply G.callM (f := 0) (fid := 61)
      case he => exact en_sampleMade
      case ho => rfl
      case hg => rfl
      case hf => rfl
      case hc => exact sampleMade_mc _ 1 2 [(1, 0, 0, 0), (2, 0, 0, 0), (2, 0, 1, 0)] rfl (by decide)
      case hp => rfl
      refine G.rgC tab_ok ok_implSample (hk := ?_)
      refine G.fin tab_ok (hr := ?_)
      simp only [oneOrTup]
      unfold sampleP
      rw [if_neg h1, if_pos h2]
      rfl
    · try simp only [decide_eq_true_eq, decide_eq_false_iff_not, Bool.and_eq_true, Bool.and_eq_false_imp, Bool.or_eq_true, Bool.or_eq_false_iff, Bool.not_eq_true', Bool.not_eq_false', bne_iff_ne, beq_iff_eq, bne_eq_false_iff_eq, beq_eq_false_iff_ne, ne_eq, Int.ofNat_lt, Int.not_lt, Int.not_le, Int.ofNat_le, Nat.not_lt, Nat.not_le, gt_iff_lt, ge_iff_le] at h2
      apply G.seq
      refine G.rg tab_ok ok_implSample (hk := ?_)
      refine G.iff (h1 := fun h3 => ?_) (h2 := fun h3 => ?_)
      · try simp only [decide_eq_true_eq, decide_eq_false_iff_not, Bool.and_eq_true, Bool.and_eq_false_imp, Bool.or_eq_true, Bool.or_eq_false_iff, Bool.not_eq_true', Bool.not_eq_false', bne_iff_ne, beq_iff_eq, bne_eq_false_iff_eq, beq_eq_false_iff_ne, ne_eq, Int.ofNat_lt, Int.not_lt, Int.not_le, Int.ofNat_le, Nat.not_lt, Nat.not_le, gt_iff_lt, ge_iff_le] at h3
        apply G.seq
        refine G.rgN 4 tab_ok ok_implSample (hk := ?_)
        apply G.callM (f := 0) (fid := 61)
        case he => exact en_sampleMade
        case ho => rfl
        case hg => rfl
        case hf => rfl
        case hc => exact sampleMade_mc _ 1 0 [(1, 0, 0, 0)] rfl (by decide)
        case hp => rfl
        refine G.rgC tab_ok ok_implSample (hk := ?_)
        refine G.fin tab_ok (hr := ?_)
        simp only [oneOrTup]
        unfold sampleP
        rw [if_neg h1, if_neg h2, if_pos h3]
        rfl
      · try simp only [decide_eq_true_eq, decide_eq_false_iff_not, Bool.and_eq_true, Bool.and_eq_false_imp, Bool.or_eq_true, Bool.or_eq_false_iff, Bool.not_eq_true', Bool.not_eq_false', bne_iff_ne, beq_iff_eq, bne_eq_false_iff_eq, beq_eq_false_iff_ne, ne_eq, Int.ofNat_lt, Int.not_lt, Int.not_le, Int.ofNat_le, Nat.not_lt, Nat.not_le, gt_iff_lt, ge_iff_le] at h3
        apply G.seq
        refine G.rg tab_ok ok_implSample (hk := ?_)
        refine G.iff (h1 := fun h4 => ?_) (h2 := fun h4 => ?_)
        · try simp only [decide_eq_true_eq, decide_eq_false_iff_not, Bool.and_eq_true, Bool.and_eq_false_imp, Bool.or_eq_true, Bool.or_eq_false_iff, Bool.not_eq_true', Bool.not_eq_false', bne_iff_ne, beq_iff_eq, bne_eq_false_iff_eq, beq_eq_false_iff_ne, ne_eq, Int.ofNat_lt, Int.not_lt, Int.not_le, Int.ofNat_le, Nat.not_lt, Nat.not_le, gt_iff_lt, ge_iff_le] at h4
          apply G.seq
          refine G.rgN 9 tab_ok ok_implSample (hk := ?_)
          apply G.callM (f := 0) (fid := 61)
          case he => exact en_sampleMade
          case ho => rfl
          case hg => rfl
          case hf => rfl
          case hc => exact sampleMade_mc _ 2 1 [(1, 0, 0, 0), (1, 1, 1, 0), (4, 0, 0, 1), (2, 0, 0, 0)] rfl (by decide)
          case hp => rfl
          refine G.rgC tab_ok ok_implSample (hk := ?_)
          refine G.fin tab_ok (hr := ?_)
          simp only [oneOrTup]
          unfold sampleP
          rw [if_neg h1, if_neg h2, if_neg h3, if_pos h4]
          rfl
        · try simp only [decide_eq_true_eq, decide_eq_false_iff_not, Bool.and_eq_true, Bool.and_eq_false_imp, Bool.or_eq_true, Bool.or_eq_false_iff, Bool.not_eq_true', Bool.not_eq_false', bne_iff_ne, beq_iff_eq, bne_eq_false_iff_eq, beq_eq_false_iff_ne, ne_eq, Int.ofNat_lt, Int.not_lt, Int.not_le, Int.ofNat_le, Nat.not_lt, Nat.not_le, gt_iff_lt, ge_iff_le] at h4
          apply G.seq
          refine G.rg tab_ok ok_implSample (hk := ?_)
          refine G.iff (h1 := fun h5 => ?_) (h2 := fun h5 => ?_)
          · try simp only [decide_eq_true_eq, decide_eq_false_iff_not, Bool.and_eq_true, Bool.and_eq_false_imp, Bool.or_eq_true, Bool.or_eq_false_iff, Bool.not_eq_true', Bool.not_eq_false', bne_iff_ne, beq_iff_eq, bne_eq_false_iff_eq, beq_eq_false_iff_ne, ne_eq, Int.ofNat_lt, Int.not_lt, Int.not_le, Int.ofNat_le, Nat.not_lt, Nat.not_le, gt_iff_lt, ge_iff_le] at h5
            apply G.seq
            refine G.rgN 10 tab_ok ok_implSample (hk := ?_)
            apply G.callM (f := 0) (fid := 61)
            case he => exact en_sampleMade
            case ho => rfl
            case hg => rfl
            case hf => rfl
            case hc => exact sampleMade_mc _ 2 1 [(1, 0, 0, 0), (2, 0, 0, 0), (1, 0, 1, 0), (2, 0, 0, 0)] rfl (by decide)
            case hp => rfl
            refine G.rgC tab_ok ok_implSample (hk := ?_)
            refine G.fin tab_ok (hr := ?_)
            simp only [oneOrTup]
            unfold sampleP
            rw [if_neg h1, if_neg h2, if_neg h3, if_neg h4, if_pos h5]
            rfl
          · try simp only [decide_eq_true_eq, decide_eq_false_iff_not, Bool.and_eq_true, Bool.and_eq_false_imp, Bool.or_eq_true, Bool.or_eq_false_iff, Bool.not_eq_true', Bool.not_eq_false', bne_iff_ne, beq_iff_eq, bne_eq_false_iff_eq, beq_eq_false_iff_ne, ne_eq, Int.ofNat_lt, Int.not_lt, Int.not_le, Int.ofNat_le, Nat.not_lt, Nat.not_le, gt_iff_lt, ge_iff_le] at h5
            apply G.seq
            refine G.rg tab_ok ok_implSample (hk := ?_)
            refine G.iff (h1 := fun h6 => ?_) (h2 := fun h6 => ?_)
            · try simp only [decide_eq_true_eq, decide_eq_false_iff_not, Bool.and_eq_true, Bool.and_eq_false_imp, Bool.or_eq_true, Bool.or_eq_false_iff, Bool.not_eq_true', Bool.not_eq_false', bne_iff_ne, beq_iff_eq, bne_eq_false_iff_eq, beq_eq_false_iff_ne, ne_eq, Int.ofNat_lt, Int.not_lt, Int.not_le, Int.ofNat_le, Nat.not_lt, Nat.not_le, gt_iff_lt, ge_iff_le] at h6
              apply G.seq
              refine G.rgN 10 tab_ok ok_implSample (hk := ?_)
              apply G.callM (f := 0) (fid := 61)
              case he => exact en_sampleMade
              case ho => rfl
              case hg => rfl
              case hf => rfl
              case hc => exact sampleMade_mc _ 1 2 [(1, 0, 0, 0), (2, 0, 0, 0), (1, 0, 0, 0), (2, 0, 1, 0)] rfl (by decide)
              case hp => rfl
              refine G.rgC tab_ok ok_implSample (hk := ?_)
              refine G.fin tab_ok (hr := ?_)
              simp only [oneOrTup]
              unfold sampleP
              rw [if_neg h1, if_neg h2, if_neg h3, if_neg h4, if_neg h5, if_pos h6]
              rfl
            · try simp only [decide_eq_true_eq, decide_eq_false_iff_not, Bool.and_eq_true, Bool.and_eq_false_imp, Bool.or_eq_true, Bool.or_eq_false_iff, Bool.not_eq_true', Bool.not_eq_false', bne_iff_ne, beq_iff_eq, bne_eq_false_iff_eq, beq_eq_false_iff_ne, ne_eq, Int.ofNat_lt, Int.not_lt, Int.not_le, Int.ofNat_le, Nat.not_lt, Nat.not_le, gt_iff_lt, ge_iff_le] at h6
              apply G.seq
              refine G.rg tab_ok ok_implSample (hk := ?_)
              refine G.fg [2, 3, 4, 5, 6, 72] (hk := ?_)
              refine G.iff (h1 := fun h7 => ?_) (h2 := fun h7 => ?_)
              · try simp only [decide_eq_true_eq, decide_eq_false_iff_not, Bool.and_eq_true, Bool.and_eq_false_imp, Bool.or_eq_true, Bool.or_eq_false_iff, Bool.not_eq_true', Bool.not_eq_false', bne_iff_ne, beq_iff_eq, bne_eq_false_iff_eq, beq_eq_false_iff_ne, ne_eq, Int.ofNat_lt, Int.not_lt, Int.not_le, Int.ofNat_le, Nat.not_lt, Nat.not_le, gt_iff_lt, ge_iff_le] at h7
                apply G.seq
                refine G.rgN 7 tab_ok ok_implSample (hk := ?_)
                apply G.callM (f := 0) (fid := 61)
                case he => exact en_sampleMade
                case ho => rfl
                case hg => rfl
                case hf => rfl
                case hc => exact sampleMade_mc _ 1 1 [(1, 1, 0, 0), (4, 0, 0, 1), (2, 0, 0, 0)] rfl (by decide)
                case hp => rfl
                refine G.rgC tab_ok ok_implSample (hk := ?_)
                refine G.fin tab_ok (hr := ?_)
                simp only [oneOrTup]
                unfold sampleP
                rw [if_neg h1, if_neg h2, if_neg h3, if_neg h4, if_neg h5, if_neg h6, if_pos h7]
                rfl
              · try simp only [decide_eq_true_eq, decide_eq_false_iff_not, Bool.and_eq_true, Bool.and_eq_false_imp, Bool.or_eq_true, Bool.or_eq_false_iff, Bool.not_eq_true', Bool.not_eq_false', bne_iff_ne, beq_iff_eq, bne_eq_false_iff_eq, beq_eq_false_iff_ne, ne_eq, Int.ofNat_lt, Int.not_lt, Int.not_le, Int.ofNat_le, Nat.not_lt, Nat.not_le, gt_iff_lt, ge_iff_le] at h7
                apply G.seq
                refine G.rg tab_ok ok_implSample (hk := ?_)
                refine G.iff (h1 := fun h8 => ?_) (h2 := fun h8 => ?_)
                · try simp only [decide_eq_true_eq, decide_eq_false_iff_not, Bool.and_eq_true, Bool.and_eq_false_imp, Bool.or_eq_true, Bool.or_eq_false_iff, Bool.not_eq_true', Bool.not_eq_false', bne_iff_ne, beq_iff_eq, bne_eq_false_iff_eq, beq_eq_false_iff_ne, ne_eq, Int.ofNat_lt, Int.not_lt, Int.not_le, Int.ofNat_le, Nat.not_lt, Nat.not_le, gt_iff_lt, ge_iff_le] at h8
                  apply G.seq
                  refine G.rgN 9 tab_ok ok_implSample (hk := ?_)
                  apply G.callM (f := 0) (fid := 61)
                  case he => exact en_sampleMade
                  case ho => rfl
                  case hg => rfl
                  case hf => rfl
                  case hc => exact sampleMade_mc _ 1 1 [(1, 1, 0, 0), (5, 2, 1, 0), (2, 2, 0, 0), (3, 3, 0, 0), (4, 0, 1, 3)] rfl (by decide)
                  case hp => rfl
                  refine G.rgC tab_ok ok_implSample (hk := ?_)
                  refine G.fin tab_ok (hr := ?_)
                  simp only [oneOrTup]
                  unfold sampleP
                  rw [if_neg h1, if_neg h2, if_neg h3, if_neg h4, if_neg h5, if_neg h6, if_neg h7, if_pos h8]
                  rfl
                · try simp only [decide_eq_true_eq, decide_eq_false_iff_not, Bool.and_eq_true, Bool.and_eq_false_imp, Bool.or_eq_true, Bool.or_eq_false_iff, Bool.not_eq_true', Bool.not_eq_false', bne_iff_ne, beq_iff_eq, bne_eq_false_iff_eq, beq_eq_false_iff_ne, ne_eq, Int.ofNat_lt, Int.not_lt, Int.not_le, Int.ofNat_le, Nat.not_lt, Nat.not_le, gt_iff_lt, ge_iff_le] at h8
                  apply G.seq
                  refine G.rg tab_ok ok_implSample (hk := ?_)
                  refine G.iff (h1 := fun h9 => ?_) (h2 := fun h9 => ?_)
                  · try simp only [decide_eq_true_eq, decide_eq_false_iff_not, Bool.and_eq_true, Bool.and_eq_false_imp, Bool.or_eq_true, Bool.or_eq_false_iff, Bool.not_eq_true', Bool.not_eq_false', bne_iff_ne, beq_iff_eq, bne_eq_false_iff_eq, beq_eq_false_iff_ne, ne_eq, Int.ofNat_lt, Int.not_lt, Int.not_le, Int.ofNat_le, Nat.not_lt, Nat.not_le, gt_iff_lt, ge_iff_le] at h9
                    apply G.seq
                    refine G.rgN 8 tab_ok ok_implSample (hk := ?_)
                    apply G.callM (f := 0) (fid := 61)
                    case he => exact en_sampleMade
                    case ho => rfl
                    case hg => rfl
                    case hf => rfl
                    case hc => exact sampleMade_mc _ 1 1 [(1, 0, 0, 0), (2, 0, 0, 0), (2, 0, 0, 0)] rfl (by decide)
                    case hp => rfl
                    refine G.rgC tab_ok ok_implSample (hk := ?_)
                    refine G.fin tab_ok (hr := ?_)
                    simp only [oneOrTup]
                    unfold sampleP
                    rw [if_neg h1, if_neg h2, if_neg h3, if_neg h4, if_neg h5, if_neg h6, if_neg h7, if_neg h8, if_pos h9]
                    rfl
                  · try simp only [decide_eq_true_eq, decide_eq_false_iff_not, Bool.and_eq_true, Bool.and_eq_false_imp, Bool.or_eq_true, Bool.or_eq_false_iff, Bool.not_eq_true', Bool.not_eq_false', bne_iff_ne, beq_iff_eq, bne_eq_false_iff_eq, beq_eq_false_iff_ne, ne_eq, Int.ofNat_lt, Int.not_lt, Int.not_le, Int.ofNat_le, Nat.not_lt, Nat.not_le, gt_iff_lt, ge_iff_le] at h9
                    apply G.seq
                    refine G.rg tab_ok ok_implSample (hk := ?_)
                    refine G.iff (h1 := fun h10 => ?_) (h2 := fun h10 => ?_)
                    · try simp only [decide_eq_true_eq, decide_eq_false_iff_not, Bool.and_eq_true, Bool.and_eq_false_imp, Bool.or_eq_true, Bool.or_eq_false_iff, Bool.not_eq_true', Bool.not_eq_false', bne_iff_ne, beq_iff_eq, bne_eq_false_iff_eq, beq_eq_false_iff_ne, ne_eq, Int.ofNat_lt, Int.not_lt, Int.not_le, Int.ofNat_le, Nat.not_lt, Nat.not_le, gt_iff_lt, ge_iff_le] at h10
                      apply G.seq
                      refine G.rgN 6 tab_ok ok_implSample (hk := ?_)
                      apply G.callM (f := 0) (fid := 61)
                      case he => exact en_sampleMade
                      case ho => rfl
                      case hg => rfl
                      case hf => rfl
                      case hc => exact sampleMade_mc _ 0 1 [(2, 0, 0, 0), (3, 1, 1, 0), (4, 0, 0, 1)] rfl (by decide)
                      case hp => rfl
                      refine G.rgC tab_ok ok_implSample (hk := ?_)
                      refine G.fin tab_ok (hr := ?_)
                      simp only [oneOrTup]
                      unfold sampleP
                      rw [if_neg h1, if_neg h2, if_neg h3, if_neg h4, if_neg h5, if_neg h6, if_neg h7, if_neg h8, if_neg h9, if_pos h10]
                      rfl
                    · try simp only [decide_eq_true_eq, decide_eq_false_iff_not, Bool.and_eq_true, Bool.and_eq_false_imp, Bool.or_eq_true, Bool.or_eq_false_iff, Bool.not_eq_true', Bool.not_eq_false', bne_iff_ne, beq_iff_eq, bne_eq_false_iff_eq, beq_eq_false_iff_ne, ne_eq, Int.ofNat_lt, Int.not_lt, Int.not_le, Int.ofNat_le, Nat.not_lt, Nat.not_le, gt_iff_lt, ge_iff_le] at h10
                      apply G.seq
                      refine G.rg tab_ok ok_implSample (hk := ?_)
                      refine G.iff (h1 := fun h11 => ?_) (h2 := fun h11 => ?_)
                      · try simp only [decide_eq_true_eq, decide_eq_false_iff_not, Bool.and_eq_true, Bool.and_eq_false_imp, Bool.or_eq_true, Bool.or_eq_false_iff, Bool.not_eq_true', Bool.not_eq_false', bne_iff_ne, beq_iff_eq, bne_eq_false_iff_eq, beq_eq_false_iff_ne, ne_eq, Int.ofNat_lt, Int.not_lt, Int.not_le, Int.ofNat_le, Nat.not_lt, Nat.not_le, gt_iff_lt, ge_iff_le] at h11
                        apply G.seq
                        refine G.rgN 12 tab_ok ok_implSample (hk := ?_)
                        apply G.callM (f := 0) (fid := 61)
                        case he => exact en_sampleMade
                        case ho => rfl
                        case hg => rfl
                        case hf => rfl
                        case hc => exact sampleMade_mc _ 3 1 [(1, 0, 0, 0), (9, 0, 4, 0), (1, 1, 2, 0), (8, 0, 5, 0), (1, 1, 1, 0), (2, 1, 0, 0)] rfl (by decide)
                        case hp => rfl
                        refine G.rgC tab_ok ok_implSample (hk := ?_)
                        refine G.fin tab_ok (hr := ?_)
                        simp only [oneOrTup]
                        unfold sampleP
                        rw [if_neg h1, if_neg h2, if_neg h3, if_neg h4, if_neg h5, if_neg h6, if_neg h7, if_neg h8, if_neg h9, if_neg h10, if_pos h11]
                        rfl
                      · try simp only [decide_eq_true_eq, decide_eq_false_iff_not, Bool.and_eq_true, Bool.and_eq_false_imp, Bool.or_eq_true, Bool.or_eq_false_iff, Bool.not_eq_true', Bool.not_eq_false', bne_iff_ne, beq_iff_eq, bne_eq_false_iff_eq, beq_eq_false_iff_ne, ne_eq, Int.ofNat_lt, Int.not_lt, Int.not_le, Int.ofNat_le, Nat.not_lt, Nat.not_le, gt_iff_lt, ge_iff_le] at h11
                        apply G.skip
                        apply G.blk
                        apply G.seq
                        refine G.rg tab_ok ok_implSample (hk := ?_)
                        refine G.focusNil 0 0 2 4 rfl rfl rfl ?_
                        refine G.fin tab_ok (hr := ?_)
                        simp only [oneOrTup]
                        unfold sampleP
                        rw [if_neg h1, if_neg h2, if_neg h3, if_neg h4, if_neg h5, if_neg h6, if_neg h7, if_neg h8, if_neg h9, if_neg h10, if_neg h11]
                        rfl
def r_implSample (xs0 : List A) (rr : A) : Prop := ∃ (s : ByteArray), xs0 = [.str s] ∧ rr = .agg [.int .i64 (sampleP s).1, .int .i64 (sampleP s).2.1, .row true 4 ((sampleP s).2.2.map insv)]
noncomputable def q_implSample : List A → Option A := kgr r_implSample
theorem k_implSample : KOk Try.prog (19, q_implSample) := kgr_ok (enters_of Try.func19 rfl rfl) (by rintro xs0 rr ⟨s, rfl, rfl⟩; exact implSample_ac s)
theorem e_implSample : ∀ (s : ByteArray), q_implSample [.str s] = some (.agg [.int .i64 (sampleP s).1, .int .i64 (sampleP s).2.1, .row true 4 ((sampleP s).2.2.map insv)]) := by
  intro s
  refine kgr_eq (fun xs0 rr r2 h h2 => ?_) ⟨s, rfl, rfl⟩
  obtain ⟨s1, e1, rfl⟩ := h; obtain ⟨s2, e2, rfl⟩ := h2
  rw [e1] at e2
  simp only [List.cons.injEq, A.str.injEq, and_true] at e2
  simp [e2]

end Go.Proofs.Ytmijpnghcggdfaa.Ab
