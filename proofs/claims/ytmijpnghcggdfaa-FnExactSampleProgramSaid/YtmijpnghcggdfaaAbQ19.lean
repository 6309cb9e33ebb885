/- Walks of functions of the program: what each answers, for all arguments that meet its conditions. -/
import Derived.Test.YtmijpnghcggdfaaAbP23
import Derived.Test.YtmijpnghcggdfaaAbP10
namespace Go.Proofs.Ytmijpnghcggdfaa.Ab
open Go
set_option linter.unusedVariables false
set_option linter.unusedSimpArgs false
set_option maxHeartbeats 4000000

theorem ok_lawSampleProgram : Kn.ok Try.prog (kof [(18, q_specSample), (19, q_implSample), (20, q_eqProgram), (22, q_heldProgram)]) := kof_cons k_specSample (kof_cons k_implSample (kof_cons k_eqProgram (kof_cons k_heldProgram ((kof_nil _)))))
theorem sampleP_len (s : ByteArray) : (sampleP s).2.2.length ≤ 24 := by
  have key : ∀ {c : Prop} [Decidable c] (a b : Int × Int × List I4), a.2.2.length ≤ 24 → b.2.2.length ≤ 24 → (if c then a else b).2.2.length ≤ 24 := by intro c _ a b h1 h2; split <;> assumption
  unfold sampleP
  iterate 11 refine key _ _ (by decide) ?_
  decide
theorem en_markProgram : Enters Try.prog 21 := enters_of Try.func21 rfl rfl
theorem lawSampleProgram_ac (s : ByteArray)  : AC Try.prog 4 [.str s] (.bool true) := by
  have e_specSample := e_specSample
  have e_implSample := e_implSample
  have e_eqProgram := e_eqProgram
  have e_heldProgram := e_heldProgram
  have h4 := sampleP_len s
  have h5 : (sampleP s).2.2.length < 4398046511104 := by omega
  have h6 : (sampleP s).2.2.length < 1099511627776 := by omega
  have hmk := mkP_len
  have hhm := heldP_mk
  have htk : List.take (sampleP s).2.2.length (List.map insv (mkP 1 (sampleP s).2.2.length)) = List.map insv (mkP 1 (sampleP s).2.2.length) := List.take_of_length_le (by simp [mkP_len])
  have hn2 : ¬ (1 + 4 * ((sampleP s).2.2.length : Int) < 0) := by omega
  refine AC.of tab_ok Try.func4 rfl (Nat.le_of_ble_eq_true rfl) fun w0 S0 => ?_
  change G _ _ ⟨[(0, .str s)], [], 44⟩
  apply G.seq
  refine G.rg tab_ok ok_lawSampleProgram (hk := ?_)
  apply G.seq
  apply G.seq
  refine G.rg tab_ok ok_lawSampleProgram (hk := ?_)
  refine G.iff (h1 := fun h1 => ?_) (h2 := fun h1 => ?_)
  · try simp only [decide_eq_true_eq, decide_eq_false_iff_not, Bool.and_eq_true, Bool.and_eq_false_imp, Bool.or_eq_true, Bool.or_eq_false_iff, Bool.not_eq_true', Bool.not_eq_false', bne_iff_ne, beq_iff_eq, bne_eq_false_iff_eq, beq_eq_false_iff_ne, ne_eq, Int.ofNat_lt, Int.not_lt, Int.not_le, Int.ofNat_le, Nat.not_lt, Nat.not_le, gt_iff_lt, ge_iff_le] at h1
    apply G.seq
    refine G.rg tab_ok ok_lawSampleProgram (hk := ?_)
    refine G.fin tab_ok (hr := ?_)
    rfl
  · try simp only [decide_eq_true_eq, decide_eq_false_iff_not, Bool.and_eq_true, Bool.and_eq_false_imp, Bool.or_eq_true, Bool.or_eq_false_iff, Bool.not_eq_true', Bool.not_eq_false', bne_iff_ne, beq_iff_eq, bne_eq_false_iff_eq, beq_eq_false_iff_ne, ne_eq, Int.ofNat_lt, Int.not_lt, Int.not_le, Int.ofNat_le, Nat.not_lt, Nat.not_le, gt_iff_lt, ge_iff_le] at h1
    apply G.skip
    apply G.seq
    refine G.rg tab_ok ok_lawSampleProgram (hk := ?_)
    apply G.seq
    refine G.rg tab_ok ok_lawSampleProgram (hk := ?_)
    apply G.seq
    apply G.seq
    refine G.rg tab_ok ok_lawSampleProgram (hk := ?_)
    refine G.fg [0, 3, 4, 18] (hk := ?_)
    refine G.iffF (h2 := ?_)
    apply G.skip
    apply G.seq
    refine G.rg tab_ok ok_lawSampleProgram (hk := ?_)
    apply G.seq
    refine G.rgN 2 tab_ok ok_lawSampleProgram (hk := ?_)
    apply G.callM (f := 0) (fid := 21)
    case he => exact en_markProgram
    case ho => rfl
    case hg => rfl
    case hf => rfl
    case hc => exact markProgram_mc _ 2 (sampleP s).1 (sampleP s).2.1 (sampleP s).2.2 1 (by rfl) (by omega) (by omega) h6
    case hp => rfl
    refine G.rgC tab_ok ok_lawSampleProgram (hk := ?_)
    apply G.seq
    refine G.rg tab_ok ok_lawSampleProgram (hk := ?_)
    apply G.seq
    refine G.rg tab_ok ok_lawSampleProgram (hk := ?_)
    apply G.seq
    apply G.seq
    refine G.rg tab_ok ok_lawSampleProgram (hk := ?_)
    refine G.fg [0, 3, 4, 5, 6, 26] (hk := ?_)
    refine G.iffF (h2 := ?_)
    apply G.skip
    apply G.seq
    apply G.seq
    refine G.rg tab_ok ok_lawSampleProgram (hk := ?_)
    refine G.iffF (h2 := ?_)
    apply G.skip
    apply G.seq
    refine G.rg tab_ok ok_lawSampleProgram (hk := ?_)
    apply G.seq
    apply G.seq
    refine G.rg tab_ok ok_lawSampleProgram (hk := ?_)
    refine G.fg [4, 5, 35] (hk := ?_)
    refine G.iffF (h2 := ?_)
    apply G.skip
    apply G.seq
    refine G.rg tab_ok ok_lawSampleProgram (hk := ?_)
    apply G.seq
    refine G.rg tab_ok ok_lawSampleProgram (hk := ?_)
    apply G.seq
    apply G.seq
    refine G.rg tab_ok ok_lawSampleProgram (hk := ?_)
    refine G.iffF (h2 := ?_)
    apply G.skip
    apply G.seq
    apply G.seq
    refine G.rg tab_ok ok_lawSampleProgram (hk := ?_)
    refine G.fg [43] (hk := ?_)
    refine G.iffF (h2 := ?_)
    apply G.skip
    apply G.seq
    refine G.rg tab_ok ok_lawSampleProgram (hk := ?_)
    refine G.fin tab_ok (hr := ?_)
    rfl

end Go.Proofs.Ytmijpnghcggdfaa.Ab
