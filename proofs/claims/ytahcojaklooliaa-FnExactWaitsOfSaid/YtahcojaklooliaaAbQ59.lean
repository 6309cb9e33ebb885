/- Walks of functions of the program: what each answers, for all arguments that meet its conditions. -/
import Derived.Test.YtahcojaklooliaaAbO3
import Derived.Test.YtahcojaklooliaaAbO4
import Derived.Test.YtahcojaklooliaaFwGe
import Derived.Test.YtahcojaklooliaaFwGh
import Derived.Test.YtahcojaklooliaaFwGc
namespace Go.Proofs.Ytahcojaklooliaa.Ab
open Go
set_option linter.unusedVariables false
set_option linter.unusedSimpArgs false
set_option maxHeartbeats 4000000
theorem ok_lawWaitsOf : Kn.ok Try.prog (kof [(12, q_szNetwork), (14, q_toNetwork), (21, q_specWaitsOf), (22, q_implWaitsOf), (17, q_eqNetwork), (23, q_eqIntS), (25, q_heldIntS)]) := kof_cons k_szNetwork (kof_cons k_toNetwork (kof_cons k_specWaitsOf (kof_cons k_implWaitsOf (kof_cons k_eqNetwork (kof_cons k_eqIntS (kof_cons k_heldIntS ((kof_nil _))))))))
theorem en_markNetwork : Enters Try.prog 18 := enters_of Try.func18 rfl rfl
theorem heldI_mkW (n : Int) (k : Nat) : heldI n (mkI n k) = n + k := by unfold heldI; rw [mkI_len, if_pos rfl]
theorem lawWaitsOf_ac (ps : List PG) (ks : List LK) (hc1 : NW ps) (hc2 : KW ks) (hc3 : ps.length < 3518437208781) (hc4 : ks.length < 2513169434844) : AC Try.prog 4 [.agg [.row false 3 (ps.map pv), .row false 5 (ks.map kv)]] (.bool true) := by
  have e_szNetwork := e_szNetwork
  have e_toNetwork := e_toNetwork
  have e_specWaitsOf := e_specWaitsOf
  have e_implWaitsOf := e_implWaitsOf
  have e_eqNetwork := e_eqNetwork
  have e_eqIntS := e_eqIntS
  have e_heldIntS := e_heldIntS
  have hivl := ivL_eq
  have hro := roLL_ovL
  have hpov := pureLL_ovL
  have hnov := noLoanLL_ovL
  have hsz : szNet 1048576 ps ks ≤ 1048576 := szNet_le (by omega)
  have hol := waitO_len ps ks
  obtain ⟨O, hO⟩ : ∃ x, waitO ps ks = x := ⟨_, rfl⟩
  rw [hO] at hol
  have h5 : O.1.length < 17592186044416 := by omega
  have h6 : O.1.length < 1099511627776 := by omega
  have hmk := mkI_len
  have hhm := heldI_mkW
  have htk : List.take O.1.length (List.map iv (mkI 1 O.1.length)) = List.map iv (mkI 1 O.1.length) := List.take_of_length_le (by simp [mkI_len])
  have hn2 : ¬ (1 + (O.1.length : Int) < 0) := by omega
  refine AC.of tab_ok Try.func4 rfl (Nat.le_of_ble_eq_true rfl) fun w0 S0 => ?_
  change G _ _ ⟨[(0, .agg [.row false 3 (ps.map pv), .row false 5 (ks.map kv)])], [], 96⟩
  apply G.seq
  refine G.rg tab_ok ok_lawWaitsOf (hk := ?_)
  apply G.seq
  refine G.rg tab_ok ok_lawWaitsOf (hk := ?_)
  apply G.seq
  refine G.rg tab_ok ok_lawWaitsOf (hk := ?_)
  apply G.seq
  apply G.seq
  refine G.rg tab_ok ok_lawWaitsOf (hk := ?_)
  refine G.fg [1, 18, 41, 42, 43, 44] (hk := ?_)
  refine G.iff (h1 := fun h1 => ?_) (h2 := fun h1 => ?_)
  · try simp only [decide_eq_true_eq, decide_eq_false_iff_not, Bool.and_eq_true, Bool.and_eq_false_imp, Bool.or_eq_true, Bool.or_eq_false_iff, Bool.not_eq_true', Bool.not_eq_false', bne_iff_ne, beq_iff_eq, bne_eq_false_iff_eq, beq_eq_false_iff_ne, ne_eq, Int.ofNat_lt, Int.not_lt, Int.not_le, Int.ofNat_le, Nat.not_lt, Nat.not_le, gt_iff_lt, ge_iff_le] at h1
    apply G.seq
    refine G.rg tab_ok ok_lawWaitsOf (hk := ?_)
    refine G.fin tab_ok (hr := ?_)
    rfl
  · try simp only [decide_eq_true_eq, decide_eq_false_iff_not, Bool.and_eq_true, Bool.and_eq_false_imp, Bool.or_eq_true, Bool.or_eq_false_iff, Bool.not_eq_true', Bool.not_eq_false', bne_iff_ne, beq_iff_eq, bne_eq_false_iff_eq, beq_eq_false_iff_ne, ne_eq, Int.ofNat_lt, Int.not_lt, Int.not_le, Int.ofNat_le, Nat.not_lt, Nat.not_le, gt_iff_lt, ge_iff_le] at h1
    apply G.skip
    apply G.seq
    have hszo := szNet_ok (n := 1048576) (ps := ps) (ks := ks) (by omega)
    have htp := tP_eq ps
    have htk0 := tK_eq ks
    have hps20 : ps.length ≤ 1048576 := by omega
    have hks20 : ks.length ≤ 1048576 := by omega
    have hpl : ps.length < 1099511627776 := by omega
    have hkl : ks.length < 1099511627776 := by omega
    have hbt : (1 : Int) + (tP ps : Int) + (tK ks : Int) ≤ 1048576000 := by omega
    have hn1 : ¬ ((1 : Int) + (tP ps : Int) + (tK ks : Int) < 0) := by omega
    clear hszo htp htk0
    refine G.rg tab_ok ok_lawWaitsOf (hk := ?_)
    apply G.seq
    refine G.rg tab_ok ok_lawWaitsOf (hk := ?_)
    apply G.seq
    refine G.rg tab_ok ok_lawWaitsOf (hk := ?_)
    apply G.seq
    apply G.seq
    refine G.rg tab_ok ok_lawWaitsOf (hk := ?_)
    refine G.fg [1, 4, 5, 6, 7, 8, 40, 41, 42, 43, 44] (hk := ?_)
    refine G.iffF (h2 := ?_)
    apply G.skip
    apply G.seq
    apply G.seq
    refine G.dr mixed tab_ok ok_lawWaitsOf [0, 1, 2, 3, 4] (hk := ?_)
    refine G.iffF (h2 := ?_)
    apply G.skip
    apply G.seq
    refine G.rg tab_ok ok_lawWaitsOf (hk := ?_)
    apply G.seq
    refine G.rgN 2 tab_ok ok_lawWaitsOf (hk := ?_)
    refine G.cf [4, 5] en_markNetwork (markNetwork_mc _ ps ks 1 rfl (by omega) hbt hpl hkl) (h := ?_)
    refine G.rgC tab_ok ok_lawWaitsOf (hk := ?_)
    apply G.seq
    apply G.seq
    refine G.rg tab_ok ok_lawWaitsOf (hk := ?_)
    refine G.fg [1, 4, 5, 7, 61] (hk := ?_)
    refine G.iffF (h2 := ?_)
    apply G.skip
    apply G.seq
    refine G.rg tab_ok ok_lawWaitsOf (hk := ?_)
    apply G.seq
    refine G.rgN 2 tab_ok ok_lawWaitsOf (hk := ?_)
    refine G.cf [7] en_markIntS (markIntS_mc [some (1, O.1.map iv)] 0 O.1 1 rfl (by omega) (by omega) h6) (h := ?_)
    refine G.rgC tab_ok ok_lawWaitsOf (hk := ?_)
    apply G.seq
    refine G.rg tab_ok ok_lawWaitsOf (hk := ?_)
    apply G.seq
    refine G.rg tab_ok ok_lawWaitsOf (hk := ?_)
    apply G.seq
    apply G.seq
    refine G.rg tab_ok ok_lawWaitsOf (hk := ?_)
    refine G.fg [1, 4, 5, 7, 10, 11, 69] (hk := ?_)
    refine G.iffF (h2 := ?_)
    apply G.skip
    apply G.seq
    apply G.seq
    refine G.rg tab_ok ok_lawWaitsOf (hk := ?_)
    refine G.iffF (h2 := ?_)
    apply G.skip
    apply G.seq
    refine G.rg tab_ok ok_lawWaitsOf (hk := ?_)
    apply G.seq
    apply G.seq
    refine G.rg tab_ok ok_lawWaitsOf (hk := ?_)
    refine G.fg [7, 10, 87] (hk := ?_)
    refine G.iffF (h2 := ?_)
    apply G.skip
    apply G.seq
    refine G.rg tab_ok ok_lawWaitsOf (hk := ?_)
    apply G.seq
    refine G.rg tab_ok ok_lawWaitsOf (hk := ?_)
    apply G.seq
    apply G.seq
    refine G.rg tab_ok ok_lawWaitsOf (hk := ?_)
    refine G.iffF (h2 := ?_)
    apply G.skip
    apply G.seq
    apply G.seq
    refine G.rg tab_ok ok_lawWaitsOf (hk := ?_)
    refine G.fg [95] (hk := ?_)
    refine G.iffF (h2 := ?_)
    apply G.skip
    apply G.seq
    refine G.rg tab_ok ok_lawWaitsOf (hk := ?_)
    refine G.fin tab_ok (hr := ?_)
    rfl
end Go.Proofs.Ytahcojaklooliaa.Ab
