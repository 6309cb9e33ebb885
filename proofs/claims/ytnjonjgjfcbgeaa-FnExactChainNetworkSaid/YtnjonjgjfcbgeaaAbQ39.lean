/- Walks of functions of the program: what each answers, for all arguments that meet its conditions. -/
import Derived.Test.YtnjonjgjfcbgeaaAbN1
import Derived.Test.YtnjonjgjfcbgeaaAbN2
import Derived.Test.YtnjonjgjfcbgeaaAbB3
import Derived.Test.YtnjonjgjfcbgeaaAbB4
import Derived.Test.YtnjonjgjfcbgeaaAbM1
import Derived.Test.YtnjonjgjfcbgeaaAbM2
import Derived.Test.YtnjonjgjfcbgeaaAbP10
namespace Go.Proofs.Ytnjonjgjfcbgeaa.Ab
open Go
set_option linter.unusedVariables false
set_option linter.unusedSimpArgs false
set_option maxHeartbeats 4000000

theorem ok_lawChainNetwork : Kn.ok Try.prog (kof [(51, q_szProgramS), (53, q_toProgramS), (54, q_toIntS), (52, q_specChainNetwork), (55, q_implChainNetwork), (31, q_eqNetwork), (56, q_eqProgramS), (43, q_eqIntS), (58, q_heldNetwork)]) := kof_cons k_szProgramS (kof_cons k_toProgramS (kof_cons k_toIntS (kof_cons k_specChainNetwork (kof_cons k_implChainNetwork (kof_cons k_eqNetwork (kof_cons k_eqProgramS (kof_cons k_eqIntS (kof_cons k_heldNetwork ((kof_nil _))))))))))
theorem en_markNetwork : Enters Try.prog 44 := enters_of Try.func44 rfl rfl
theorem lawChainNetwork_ac (ps : List PG) (tk : List Int) (hc1 : NW ps) (hc2 : ps.length < 3518437208781) (hc3 : tk.length < 17592186044416) : AC Try.prog 12 [.row false 3 (ps.map pv), .row false 1 (tk.map iv)] (.bool true) := by
  have e_szProgramS := e_szProgramS
  have e_toProgramS := e_toProgramS
  have e_toIntS := e_toIntS
  have e_specChainNetwork := e_specChainNetwork
  have e_implChainNetwork := e_implChainNetwork
  have e_eqNetwork := e_eqNetwork
  have e_eqProgramS := e_eqProgramS
  have e_eqIntS := e_eqIntS
  have e_heldNetwork := e_heldNetwork
  obtain ⟨b1, b2, b3, b4⟩ := chain_bd ps tk
  obtain ⟨O, hO⟩ : ∃ x, chainO ps tk = x := ⟨_, rfl⟩
  rw [hO] at b1 b2 b3 b4
  have hOn : NW O.1 := fun p hp => by have := b3 p hp; omega
  have hOk : KW O.2.1 := fun x hx => by have := b4 x hx; omega
  have hOp : O.1.length < 3518437208781 := by omega
  have hOl : O.2.1.length < 2513169434844 := by omega
  have hO1 : O.1.length < 1099511627776 := by omega
  have hO2 : O.2.1.length < 1099511627776 := by omega
  have hOb := net_tot b1 b2 b3 b4
  have hml1 : O.1.length ≤ (mkPS 1 O.1).length := by rw [mkPS_len]; exact Nat.le_refl _
  have hml2 : O.2.1.length ≤ (mkKS (1 + (tP O.1 : Int)) O.2.1).length := by rw [mkKS_len]; exact Nat.le_refl _
  have hmk1 : List.take O.1.length ((mkPS 1 O.1).map opv) = (mkPS 1 O.1).map opv := List.take_of_length_le (by simp [mkPS_len])
  have hmk2 : List.take O.2.1.length ((mkKS (1 + (tP O.1 : Int)) O.2.1).map okv) = (mkKS (1 + (tP O.1 : Int)) O.2.1).map okv := List.take_of_length_le (by simp [mkKS_len])
  have hmp1 : (mkPS 1 O.1).length < 1099511627776 := by rw [mkPS_len]; omega
  have hmp2 : (mkKS (1 + (tP O.1 : Int)) O.2.1).length < 1099511627776 := by rw [mkKS_len]; omega
  have hmt : (1 : Int) + (tP (mkPS 1 O.1) : Int) + (tK (mkKS (1 + (tP O.1 : Int)) O.2.1) : Int) ≤ 1048576000 := by rw [mkPS_tot, mkKS_tot]; exact hOb
  have hhN : heldN 1 (mkPS 1 O.1) (mkKS (1 + (tP O.1 : Int)) O.2.1) = 1 + (tP O.1 : Int) + (tK O.2.1 : Int) := heldN_mk 1 (by omega) _ _
  have hnO : ¬ ((1 : Int) + (tP O.1 : Int) + (tK O.2.1 : Int) < 0) := by omega
  clear b1 b2 b3 b4
  refine AC.of tab_ok Try.func12 rfl (Nat.le_of_ble_eq_true rfl) fun w0 S0 => ?_
  change G _ _ ⟨[(0, .row false 3 (ps.map pv)), (1, .row false 1 (tk.map iv))], [], 117⟩
  apply G.seq
  refine G.rg tab_ok ok_lawChainNetwork (hk := ?_)
  apply G.seq
  apply G.seq
  refine G.rg tab_ok ok_lawChainNetwork (hk := ?_)
  refine G.iff (h1 := fun h1 => ?_) (h2 := fun h1 => ?_)
  · try simp only [decide_eq_true_eq, decide_eq_false_iff_not, Bool.and_eq_true, Bool.and_eq_false_imp, Bool.or_eq_true, Bool.or_eq_false_iff, Bool.not_eq_true', Bool.not_eq_false', bne_iff_ne, beq_iff_eq, bne_eq_false_iff_eq, beq_eq_false_iff_ne, ne_eq, Int.ofNat_lt, Int.not_lt, Int.not_le, Int.ofNat_le, Nat.not_lt, Nat.not_le, gt_iff_lt, ge_iff_le] at h1
    apply G.seq
    refine G.rg tab_ok ok_lawChainNetwork (hk := ?_)
    refine G.fin tab_ok (hr := ?_)
    rfl
  · try simp only [decide_eq_true_eq, decide_eq_false_iff_not, Bool.and_eq_true, Bool.and_eq_false_imp, Bool.or_eq_true, Bool.or_eq_false_iff, Bool.not_eq_true', Bool.not_eq_false', bne_iff_ne, beq_iff_eq, bne_eq_false_iff_eq, beq_eq_false_iff_ne, ne_eq, Int.ofNat_lt, Int.not_lt, Int.not_le, Int.ofNat_le, Nat.not_lt, Nat.not_le, gt_iff_lt, ge_iff_le] at h1
    apply G.skip
    apply G.seq
    refine G.rg tab_ok ok_lawChainNetwork (hk := ?_)
    apply G.seq
    refine G.rg tab_ok ok_lawChainNetwork (hk := ?_)
    apply G.seq
    apply G.seq
    refine G.rg tab_ok ok_lawChainNetwork (hk := ?_)
    refine G.fg [0, 1, 24] (hk := ?_)
    refine G.iff (h1 := fun h2 => ?_) (h2 := fun h2 => ?_)
    · try simp only [decide_eq_true_eq, decide_eq_false_iff_not, Bool.and_eq_true, Bool.and_eq_false_imp, Bool.or_eq_true, Bool.or_eq_false_iff, Bool.not_eq_true', Bool.not_eq_false', bne_iff_ne, beq_iff_eq, bne_eq_false_iff_eq, beq_eq_false_iff_ne, ne_eq, Int.ofNat_lt, Int.not_lt, Int.not_le, Int.ofNat_le, Nat.not_lt, Nat.not_le, gt_iff_lt, ge_iff_le] at h2
      apply G.seq
      refine G.rg tab_ok ok_lawChainNetwork (hk := ?_)
      refine G.fin tab_ok (hr := ?_)
      rfl
    · try simp only [decide_eq_true_eq, decide_eq_false_iff_not, Bool.and_eq_true, Bool.and_eq_false_imp, Bool.or_eq_true, Bool.or_eq_false_iff, Bool.not_eq_true', Bool.not_eq_false', bne_iff_ne, beq_iff_eq, bne_eq_false_iff_eq, beq_eq_false_iff_ne, ne_eq, Int.ofNat_lt, Int.not_lt, Int.not_le, Int.ofNat_le, Nat.not_lt, Nat.not_le, gt_iff_lt, ge_iff_le] at h2
      apply G.skip
      apply G.seq
      have hszo := szT_ok (n := 1048576) (a := ps.length) (b := gtot pL ps) (by omega)
      have htp := tP_eq ps
      have hps20 : ps.length ≤ 1048576 := by omega
      have htk20 : tk.length ≤ 1048576 := by omega
      have hpl : ps.length < 1099511627776 := by omega
      have hkl : tk.length < 1099511627776 := by omega
      have hNS : NS ps := fun p hp => by have := gtot_mem (f := pL) hp; show pL p ≤ 1048576; omega
      have hbt : (1 : Int) + (tP ps : Int) ≤ 1048576000 := by omega
      have hq1 : (0 : Int) ≤ 1 + (tP ps : Int) := by omega
      have hq2 : (1 : Int) + (tP ps : Int) ≤ 1099511627776 := by omega
      have hn1 : ¬ ((1 : Int) + (tP ps : Int) + (tk.length : Int) < 0) := by omega
      clear hszo htp
      refine G.rg tab_ok ok_lawChainNetwork (hk := ?_)
      apply G.seq
      refine G.rg tab_ok ok_lawChainNetwork (hk := ?_)
      apply G.seq
      refine G.rg tab_ok ok_lawChainNetwork (hk := ?_)
      apply G.seq
      refine G.rg tab_ok ok_lawChainNetwork (hk := ?_)
      apply G.seq
      apply G.seq
      refine G.rg tab_ok ok_lawChainNetwork (hk := ?_)
      refine G.fg [0, 1, 6, 7, 8, 9, 10, 11, 51] (hk := ?_)
      refine G.iffF (h2 := ?_)
      apply G.skip
      apply G.seq
      apply G.seq
      refine G.rg tab_ok ok_lawChainNetwork (hk := ?_)
      refine G.iffF (h2 := ?_)
      apply G.skip
      apply G.seq
      apply G.seq
      refine G.rg tab_ok ok_lawChainNetwork (hk := ?_)
      refine G.fg [0, 1, 6, 7, 8, 9, 10, 11, 61] (hk := ?_)
      refine G.iffF (h2 := ?_)
      apply G.skip
      apply G.seq
      refine G.rg tab_ok ok_lawChainNetwork (hk := ?_)
      apply G.seq
      refine G.rgN 2 tab_ok ok_lawChainNetwork (hk := ?_)
      refine G.cf [5] en_markProgramS (markProgramS_mc _ ps 1 rfl (by omega) hbt hpl) (h := ?_)
      refine G.rgC tab_ok ok_lawChainNetwork (hk := ?_)
      apply G.seq
      refine G.rgN 2 tab_ok ok_lawChainNetwork (hk := ?_)
      refine G.cf [6] en_markIntS (markIntS_mc [some (1, tk.map iv)] 0 tk (1 + (tP ps : Int)) rfl hq1 hq2 hkl) (h := ?_)
      refine G.rgC tab_ok ok_lawChainNetwork (hk := ?_)
      apply G.seq
      apply G.seq
      refine G.rg tab_ok ok_lawChainNetwork (hk := ?_)
      refine G.fg [0, 1, 6, 7, 10, 80] (hk := ?_)
      refine G.iffF (h2 := ?_)
      apply G.skip
      apply G.seq
      refine G.rg tab_ok ok_lawChainNetwork (hk := ?_)
      apply G.seq
      refine G.rgN 2 tab_ok ok_lawChainNetwork (hk := ?_)
      refine G.cf [7, 8] en_markNetwork (markNetwork_mc _ O.1 O.2.1 1 rfl (by omega) hOb hO1 hO2) (h := ?_)
      refine G.rgC tab_ok ok_lawChainNetwork (hk := ?_)
      apply G.seq
      refine G.rg tab_ok ok_lawChainNetwork (hk := ?_)
      apply G.seq
      refine G.rg tab_ok ok_lawChainNetwork (hk := ?_)
      apply G.seq
      apply G.seq
      refine G.rg tab_ok ok_lawChainNetwork (hk := ?_)
      refine G.fg [0, 1, 6, 7, 10, 13, 14, 88] (hk := ?_)
      refine G.iffF (h2 := ?_)
      apply G.skip
      apply G.seq
      apply G.seq
      refine G.rg tab_ok ok_lawChainNetwork (hk := ?_)
      refine G.iffF (h2 := ?_)
      apply G.skip
      apply G.seq
      refine G.rg tab_ok ok_lawChainNetwork (hk := ?_)
      apply G.seq
      apply G.seq
      refine G.rg tab_ok ok_lawChainNetwork (hk := ?_)
      refine G.fg [10, 13, 108] (hk := ?_)
      refine G.iffF (h2 := ?_)
      apply G.skip
      apply G.seq
      refine G.rg tab_ok ok_lawChainNetwork (hk := ?_)
      apply G.seq
      refine G.rg tab_ok ok_lawChainNetwork (hk := ?_)
      apply G.seq
      apply G.seq
      refine G.rg tab_ok ok_lawChainNetwork (hk := ?_)
      refine G.iffF (h2 := ?_)
      apply G.skip
      apply G.seq
      apply G.seq
      refine G.rg tab_ok ok_lawChainNetwork (hk := ?_)
      refine G.fg [116] (hk := ?_)
      refine G.iffF (h2 := ?_)
      apply G.skip
      apply G.seq
      refine G.rg tab_ok ok_lawChainNetwork (hk := ?_)
      refine G.fin tab_ok (hr := ?_)
      rfl

end Go.Proofs.Ytnjonjgjfcbgeaa.Ab
