/- Walks of functions of the program: what each answers, for all arguments that meet its conditions. -/
import Derived.Test.YtmijpnghcggdfaaAbP15
import Derived.Test.YtmijpnghcggdfaaAbP10
namespace Go.Proofs.Ytmijpnghcggdfaa.Ab
open Go
set_option linter.unusedVariables false
set_option linter.unusedSimpArgs false
set_option maxHeartbeats 4000000

theorem ok_lawHoldStream : Kn.ok Try.prog (kof [(13, q_toIntS), (12, q_specHold), (14, q_implHold), (15, q_eqIntS), (17, q_heldIntS)]) := kof_cons k_toIntS (kof_cons k_specHold (kof_cons k_implHold (kof_cons k_eqIntS (kof_cons k_heldIntS ((kof_nil _))))))
theorem holdOut_len (rs : List Int) (n : Int) : (holdOut rs n).1.length ≤ 400 := by
  unfold holdOut
  split
  · simp
  · split
    · rename_i h; exact strOk_len h
    · simp
theorem heldI_mk (n : Int) (k : Nat) : heldI n (mkI n k) = n + k := by unfold heldI; rw [mkI_len, if_pos rfl]
theorem lawHoldStream_ac (rs : List Int) (n : Int) (hc1 : rs.length < 17592186044416) : AC Try.prog 3 [.row false 1 (rs.map iv), .int .i64 n] (.bool true) := by
  have e_toIntS := e_toIntS
  have e_specHold := e_specHold
  have e_implHold := e_implHold
  have e_eqIntS := e_eqIntS
  have e_heldIntS := e_heldIntS
  have h4 := holdOut_len rs n
  have h5 : (holdOut rs n).1.length < 17592186044416 := by omega
  have h6 : (holdOut rs n).1.length < 1099511627776 := by omega
  have hmk := mkI_len
  have hhm := heldI_mk
  have htk : List.take (holdOut rs n).1.length (List.map iv (mkI 1 (holdOut rs n).1.length)) = List.map iv (mkI 1 (holdOut rs n).1.length) := List.take_of_length_le (by simp [mkI_len])
  have hn1 : ¬ (1 + (rs.length : Int) < 0) := by omega
  have hn2 : ¬ (1 + ((holdOut rs n).1.length : Int) < 0) := by omega
  refine AC.of tab_ok Try.func3 rfl (Nat.le_of_ble_eq_true rfl) fun w0 S0 => ?_
  change G _ _ ⟨[(0, .row false 1 (rs.map iv)), (1, .int .i64 n)], [], 98⟩
  apply G.seq
  refine G.rg tab_ok ok_lawHoldStream (hk := ?_)
  apply G.seq
  apply G.seq
  refine G.rg tab_ok ok_lawHoldStream (hk := ?_)
  refine G.iff (h1 := fun h1 => ?_) (h2 := fun h1 => ?_)
  · try simp only [decide_eq_true_eq, decide_eq_false_iff_not, Bool.and_eq_true, Bool.and_eq_false_imp, Bool.or_eq_true, Bool.or_eq_false_iff, Bool.not_eq_true', Bool.not_eq_false', bne_iff_ne, beq_iff_eq, bne_eq_false_iff_eq, beq_eq_false_iff_ne, ne_eq, Int.ofNat_lt, Int.not_lt, Int.not_le, Int.ofNat_le, Nat.not_lt, Nat.not_le, gt_iff_lt, ge_iff_le] at h1
    apply G.seq
    refine G.rg tab_ok ok_lawHoldStream (hk := ?_)
    refine G.fin tab_ok (hr := ?_)
    rfl
  · try simp only [decide_eq_true_eq, decide_eq_false_iff_not, Bool.and_eq_true, Bool.and_eq_false_imp, Bool.or_eq_true, Bool.or_eq_false_iff, Bool.not_eq_true', Bool.not_eq_false', bne_iff_ne, beq_iff_eq, bne_eq_false_iff_eq, beq_eq_false_iff_ne, ne_eq, Int.ofNat_lt, Int.not_lt, Int.not_le, Int.ofNat_le, Nat.not_lt, Nat.not_le, gt_iff_lt, ge_iff_le] at h1
    apply G.skip
    apply G.seq
    have hl20 : rs.length ≤ 1048576 := by omega
    have hl40 : rs.length < 1099511627776 := by omega
    refine G.rg tab_ok ok_lawHoldStream (hk := ?_)
    apply G.seq
    refine G.rg tab_ok ok_lawHoldStream (hk := ?_)
    apply G.seq
    refine G.rg tab_ok ok_lawHoldStream (hk := ?_)
    apply G.seq
    apply G.seq
    refine G.rg tab_ok ok_lawHoldStream (hk := ?_)
    refine G.fg [0, 1, 5, 6, 7, 8, 9, 41, 53, 54, 55, 56, 59, 60, 61, 86, 87, 88] (hk := ?_)
    refine G.iffF (h2 := ?_)
    apply G.skip
    apply G.seq
    apply G.seq
    refine G.rg tab_ok ok_lawHoldStream (hk := ?_)
    refine G.iffF (h2 := ?_)
    apply G.skip
    apply G.seq
    refine G.rg tab_ok ok_lawHoldStream (hk := ?_)
    apply G.seq
    refine G.rgN 2 tab_ok ok_lawHoldStream (hk := ?_)
    apply G.callM (f := 0) (fid := 16)
    case he => exact en_markIntS
    case ho => rfl
    case hg => rfl
    case hf => rfl
    case hc => exact markIntS_mc _ 2 rs 1 (by rfl) (by omega) (by omega) (by omega)
    case hp => rfl
    refine G.rgC tab_ok ok_lawHoldStream (hk := ?_)
    apply G.seq
    apply G.seq
    refine G.rg tab_ok ok_lawHoldStream (hk := ?_)
    refine G.fg [0, 1, 5, 6, 8, 62, 86, 87, 88] (hk := ?_)
    refine G.iffF (h2 := ?_)
    apply G.skip
    apply G.seq
    refine G.rg tab_ok ok_lawHoldStream (hk := ?_)
    apply G.seq
    refine G.rgN 2 tab_ok ok_lawHoldStream (hk := ?_)
    apply G.callM (f := 0) (fid := 16)
    case he => exact en_markIntS
    case ho => rfl
    case hg => rfl
    case hf => rfl
    case hc => exact markIntS_mc _ 3 (holdOut rs n).1 1 (by rfl) (by omega) (by omega) h6
    case hp => rfl
    refine G.rgC tab_ok ok_lawHoldStream (hk := ?_)
    apply G.seq
    refine G.rg tab_ok ok_lawHoldStream (hk := ?_)
    apply G.seq
    refine G.rg tab_ok ok_lawHoldStream (hk := ?_)
    apply G.seq
    apply G.seq
    refine G.rg tab_ok ok_lawHoldStream (hk := ?_)
    refine G.fg [0, 1, 5, 6, 8, 11, 12, 70, 86, 87, 88] (hk := ?_)
    refine G.iffF (h2 := ?_)
    apply G.skip
    apply G.seq
    apply G.seq
    refine G.rg tab_ok ok_lawHoldStream (hk := ?_)
    refine G.iffF (h2 := ?_)
    apply G.skip
    apply G.seq
    refine G.rg tab_ok ok_lawHoldStream (hk := ?_)
    apply G.seq
    apply G.seq
    refine G.rg tab_ok ok_lawHoldStream (hk := ?_)
    refine G.fg [8, 11, 89] (hk := ?_)
    refine G.iffF (h2 := ?_)
    apply G.skip
    apply G.seq
    refine G.rg tab_ok ok_lawHoldStream (hk := ?_)
    apply G.seq
    refine G.rg tab_ok ok_lawHoldStream (hk := ?_)
    apply G.seq
    apply G.seq
    refine G.rg tab_ok ok_lawHoldStream (hk := ?_)
    refine G.iffF (h2 := ?_)
    apply G.skip
    apply G.seq
    apply G.seq
    refine G.rg tab_ok ok_lawHoldStream (hk := ?_)
    refine G.fg [97] (hk := ?_)
    refine G.iffF (h2 := ?_)
    apply G.skip
    apply G.seq
    refine G.rg tab_ok ok_lawHoldStream (hk := ?_)
    refine G.fin tab_ok (hr := ?_)
    rfl

end Go.Proofs.Ytmijpnghcggdfaa.Ab
