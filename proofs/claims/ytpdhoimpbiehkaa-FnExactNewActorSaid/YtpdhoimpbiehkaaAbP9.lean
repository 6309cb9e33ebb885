import Derived.Test.YtpdhoimpbiehkaaAbP8
namespace Go.Proofs.Ytpdhoimpbiehkaa.Ab
open Go
set_option linter.unusedVariables false
set_option linter.unusedSimpArgs false
set_option maxHeartbeats 4000000

theorem ok_lawNewActor : Kn.ok Try.prog (kof [(62, q_szProgram), (64, q_toProgram), (80, q_specNewActor), (81, q_implNewActor), (79, q_eqActor), (66, q_eqProgram), (83, q_heldActor)]) := kof_cons k_szProgram (kof_cons k_toProgram (kof_cons k_specNewActor (kof_cons k_implNewActor (kof_cons k_eqActor (kof_cons k_eqProgram (kof_cons k_heldActor ((kof_nil _))))))))
theorem en69 : Enters Try.prog 69 := enters_of Try.func69 rfl rfl
theorem en82 : Enters Try.prog 82 := enters_of Try.func82 rfl rfl
theorem heldI_mk (n : Int) (k : Nat) : heldI n (mkI n k) = n + k := by unfold heldI; rw [mkI_len, if_pos rfl]
theorem lawNewActor_ac (i : Int) (o : Int) (l : List I4) (hc1 : l.length < 4398046511104) : AC Try.prog 24 [.agg [.int .i64 i, .int .i64 o, .row false 4 (l.map insv)]] (.bool true) := by
  have e_szProgram := e_szProgram
  have e_toProgram := e_toProgram
  have e_specNewActor := e_specNewActor
  have e_implNewActor := e_implNewActor
  have e_eqActor := e_eqActor
  have e_eqProgram := e_eqProgram
  have e_heldActor := e_heldActor
  have h4 := regs0_len i o l
  have h5 : (regs0 i o l).length < 17592186044416 := by omega
  have h6 : (regs0 i o l).length < 1099511627776 := by omega
  have hmk := mkI_len
  have hhm := heldI_mk
  have htk : List.take (regs0 i o l).length (List.map iv (mkI 1 (regs0 i o l).length)) = List.map iv (mkI 1 (regs0 i o l).length) := List.take_of_length_le (by simp [mkI_len])
  have hn1 : ¬ (1 + 4 * (l.length : Int) < 0) := by omega
  have hn2 : ¬ (1 + ((regs0 i o l).length : Int) < 0) := by omega
  refine AC.of tab_ok Try.func24 rfl (Nat.le_of_ble_eq_true rfl) fun w0 S0 => ?_
  change G _ _ ⟨[(0, .agg [.int .i64 i, .int .i64 o, .row false 4 (l.map insv)])], [], 69⟩
  apply G.seq
  refine G.rg tab_ok ok_lawNewActor (hk := ?_)
  apply G.seq
  refine G.rg tab_ok ok_lawNewActor (hk := ?_)
  apply G.seq
  refine G.rg tab_ok ok_lawNewActor (hk := ?_)
  apply G.seq
  apply G.seq
  refine G.rg tab_ok ok_lawNewActor (hk := ?_)
  refine G.fg [1, 15, 27, 28, 29, 30, 38, 39, 40, 41] (hk := ?_)
  refine G.iff (h1 := fun h1 => ?_) (h2 := fun h1 => ?_)
  · try simp only [decide_eq_true_eq, decide_eq_false_iff_not, Bool.and_eq_true, Bool.and_eq_false_imp, Bool.or_eq_true, Bool.or_eq_false_iff, Bool.not_eq_true', Bool.not_eq_false', bne_iff_ne, beq_iff_eq, bne_eq_false_iff_eq, beq_eq_false_iff_ne, ne_eq, Int.ofNat_lt, Int.not_lt, Int.not_le, Int.ofNat_le, Nat.not_lt, Nat.not_le, gt_iff_lt, ge_iff_le] at h1
    apply G.seq
    refine G.rg tab_ok ok_lawNewActor (hk := ?_)
    refine G.fin tab_ok (hr := ?_)
    rfl
  · try simp only [decide_eq_true_eq, decide_eq_false_iff_not, Bool.and_eq_true, Bool.and_eq_false_imp, Bool.or_eq_true, Bool.or_eq_false_iff, Bool.not_eq_true', Bool.not_eq_false', bne_iff_ne, beq_iff_eq, bne_eq_false_iff_eq, beq_eq_false_iff_ne, ne_eq, Int.ofNat_lt, Int.not_lt, Int.not_le, Int.ofNat_le, Nat.not_lt, Nat.not_le, gt_iff_lt, ge_iff_le] at h1
    apply G.skip
    apply G.seq
    have hl20 : l.length ≤ 1048576 := by split at h1 <;> omega
    refine G.rg tab_ok ok_lawNewActor (hk := ?_)
    apply G.seq
    refine G.rg tab_ok ok_lawNewActor (hk := ?_)
    apply G.seq
    refine G.rg tab_ok ok_lawNewActor (hk := ?_)
    apply G.seq
    apply G.seq
    refine G.rg tab_ok ok_lawNewActor (hk := ?_)
    refine G.fg [1, 4, 5, 6, 26, 27, 28, 29, 30, 38, 39, 40, 41] (hk := ?_)
    refine G.iffF (h2 := ?_)
    apply G.skip
    apply G.seq
    apply G.seq
    refine G.dr mixed tab_ok ok_lawNewActor [0, 1, 2, 3, 4] (hk := ?_)
    refine G.iffF (h2 := ?_)
    apply G.skip
    apply G.seq
    refine G.rg tab_ok ok_lawNewActor (hk := ?_)
    apply G.seq
    refine G.rgN 2 tab_ok ok_lawNewActor (hk := ?_)
    apply G.callM (f := 0) (K := 1) (fid := 69)
    case he => exact en69
    case ho => rfl
    case hg => rfl
    case hf => rfl
    case hc => exact markProgram_mc _ 4 i o l 1 (by rfl) (by omega) (by omega) (by omega)
    case hp => rfl
    refine G.rgC tab_ok ok_lawNewActor (hk := ?_)
    apply G.seq
    apply G.seq
    refine G.rg tab_ok ok_lawNewActor (hk := ?_)
    refine G.fg [1, 4, 6, 42] (hk := ?_)
    refine G.iffF (h2 := ?_)
    apply G.skip
    apply G.seq
    refine G.rg tab_ok ok_lawNewActor (hk := ?_)
    apply G.seq
    refine G.rgN 2 tab_ok ok_lawNewActor (hk := ?_)
    apply G.callM (f := 0) (K := 1) (fid := 82)
    case he => exact en82
    case ho => rfl
    case hg => rfl
    case hf => rfl
    case hc => exact markActor_mc _ 6 0 (regs0 i o l) 1 (by rfl) (by omega) (by omega) h6
    case hp => rfl
    refine G.rgC tab_ok ok_lawNewActor (hk := ?_)
    apply G.seq
    refine G.rg tab_ok ok_lawNewActor (hk := ?_)
    apply G.seq
    refine G.rg tab_ok ok_lawNewActor (hk := ?_)
    apply G.seq
    apply G.seq
    refine G.rg tab_ok ok_lawNewActor (hk := ?_)
    refine G.fg [1, 4, 6, 8, 9, 50] (hk := ?_)
    refine G.iffF (h2 := ?_)
    apply G.skip
    apply G.seq
    apply G.seq
    refine G.rg tab_ok ok_lawNewActor (hk := ?_)
    refine G.iffF (h2 := ?_)
    apply G.skip
    apply G.seq
    refine G.rg tab_ok ok_lawNewActor (hk := ?_)
    apply G.seq
    apply G.seq
    refine G.rg tab_ok ok_lawNewActor (hk := ?_)
    refine G.fg [6, 8, 60] (hk := ?_)
    refine G.iffF (h2 := ?_)
    apply G.skip
    apply G.seq
    refine G.rg tab_ok ok_lawNewActor (hk := ?_)
    apply G.seq
    refine G.rg tab_ok ok_lawNewActor (hk := ?_)
    apply G.seq
    apply G.seq
    refine G.rg tab_ok ok_lawNewActor (hk := ?_)
    refine G.iffF (h2 := ?_)
    apply G.skip
    apply G.seq
    apply G.seq
    refine G.rg tab_ok ok_lawNewActor (hk := ?_)
    refine G.fg [68] (hk := ?_)
    refine G.iffF (h2 := ?_)
    apply G.skip
    apply G.seq
    refine G.rg tab_ok ok_lawNewActor (hk := ?_)
    refine G.fin tab_ok (hr := ?_)
    rfl

end Go.Proofs.Ytpdhoimpbiehkaa.Ab
