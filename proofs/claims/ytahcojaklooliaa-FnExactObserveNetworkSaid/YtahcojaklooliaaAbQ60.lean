/- Walks of functions of the program: what each answers, for all arguments that meet its conditions. -/
import Derived.Test.YtahcojaklooliaaAbO1
import Derived.Test.YtahcojaklooliaaAbO2
import Derived.Test.YtahcojaklooliaaFwGe
import Derived.Test.YtahcojaklooliaaFwGh
import Derived.Test.YtahcojaklooliaaFwGc
namespace Go.Proofs.Ytahcojaklooliaa.Ab
open Go
set_option linter.unusedVariables false
set_option linter.unusedSimpArgs false
set_option maxHeartbeats 4000000
theorem ok_lawObserveNetwork : Kn.ok Try.prog (kof [(12, q_szNetwork), (14, q_toNetwork), (13, q_specObserveNetwork), (15, q_implObserveNetwork), (17, q_eqNetwork), (16, q_eqIntSS), (20, q_heldIntSS)]) := kof_cons k_szNetwork (kof_cons k_toNetwork (kof_cons k_specObserveNetwork (kof_cons k_implObserveNetwork (kof_cons k_eqNetwork (kof_cons k_eqIntSS (kof_cons k_heldIntSS ((kof_nil _))))))))
theorem en_markNetwork : Enters Try.prog 18 := enters_of Try.func18 rfl rfl
theorem en_markIntSS : Enters Try.prog 19 := enters_of Try.func19 rfl rfl
theorem lawObserveNetwork_ac (ps : List PG) (ks : List LK) (hc1 : NW ps) (hc2 : KW ks) (hc3 : ps.length < 3518437208781) (hc4 : ks.length < 2513169434844) : AC Try.prog 3 [.agg [.row false 3 (ps.map pv), .row false 5 (ks.map kv)]] (.bool true) := by
  have e_szNetwork := e_szNetwork
  have e_toNetwork := e_toNetwork
  have e_specObserveNetwork := e_specObserveNetwork
  have e_implObserveNetwork := e_implObserveNetwork
  have e_eqNetwork := e_eqNetwork
  have e_eqIntSS := e_eqIntSS
  have e_heldIntSS := e_heldIntSS
  have hivl := ivL_eq
  have hro := roLL_ovL
  have hpov := pureLL_ovL
  have hnov := noLoanLL_ovL
  have hsz : szNet 1048576 ps ks ≤ 1048576 := szNet_le (by omega)
  obtain ⟨b1, b3⟩ := obsO_bd ps ks
  obtain ⟨O, hO⟩ : ∃ x, obsO ps ks = x := ⟨_, rfl⟩
  rw [hO] at b1 b3
  have hbt2 := tot_most b3
  have hLW : LW O.1 := fun r hr => by have := b3 r hr; omega
  have hLM : LW (mkSS 1 O.1) := fun r hr => by have := mkSS_mem 1 b3 r hr; omega
  have h4 : O.1.length < 5864062014805 := by omega
  have h7 : O.1.length < 1099511627776 := by omega
  have hh1 : heldSS 1 (mkSS 1 O.1) = 1 + (tot O.1 : Int) := heldSS_mk 1 (by omega) O.1
  have htm : (1 : Int) + (tot (mkSS 1 O.1) : Int) ≤ 1048576000 := by rw [mkSS_tot]; omega
  have hml : (mkSS 1 O.1).length < 1099511627776 := by rw [mkSS_len]; omega
  have hml2 : O.1.length ≤ (mkSS 1 O.1).length := by rw [mkSS_len]; exact Nat.le_refl _
  have hmB : (mkSS 1 O.1).length < 5864062014805 := by rw [mkSS_len]; omega
  have htk1 : List.take O.1.length (List.map ovL (mkSS 1 O.1)) = List.map ovL (mkSS 1 O.1) := List.take_of_length_le (by simp [mkSS_len])
  have hn2 : ¬ (1 + (tot O.1 : Int) < 0) := by omega
  have hb2 : (1 : Int) + (tot O.1 : Int) ≤ 1048576000 := by omega
  clear b1 b3 hbt2
  refine AC.of tab_ok Try.func3 rfl (Nat.le_of_ble_eq_true rfl) fun w0 S0 => ?_
  change G _ _ ⟨[(0, .agg [.row false 3 (ps.map pv), .row false 5 (ks.map kv)])], [], 96⟩
  apply G.seq
  refine G.rg tab_ok ok_lawObserveNetwork (hk := ?_)
  apply G.seq
  refine G.rg tab_ok ok_lawObserveNetwork (hk := ?_)
  apply G.seq
  refine G.rg tab_ok ok_lawObserveNetwork (hk := ?_)
  apply G.seq
  apply G.seq
  refine G.rg tab_ok ok_lawObserveNetwork (hk := ?_)
  refine G.fg [1, 18, 41, 42, 43, 44] (hk := ?_)
  refine G.iff (h1 := fun h1 => ?_) (h2 := fun h1 => ?_)
  · try simp only [decide_eq_true_eq, decide_eq_false_iff_not, Bool.and_eq_true, Bool.and_eq_false_imp, Bool.or_eq_true, Bool.or_eq_false_iff, Bool.not_eq_true', Bool.not_eq_false', bne_iff_ne, beq_iff_eq, bne_eq_false_iff_eq, beq_eq_false_iff_ne, ne_eq, Int.ofNat_lt, Int.not_lt, Int.not_le, Int.ofNat_le, Nat.not_lt, Nat.not_le, gt_iff_lt, ge_iff_le] at h1
    apply G.seq
    refine G.rg tab_ok ok_lawObserveNetwork (hk := ?_)
    refine G.fin tab_ok (hr := ?_)
    rfl
  · try simp only [decide_eq_true_eq, decide_eq_false_iff_not, Bool.and_eq_true, Bool.and_eq_false_imp, Bool.or_eq_true, Bool.or_eq_false_iff, Bool.not_eq_true', Bool.not_eq_false', bne_iff_ne, beq_iff_eq, bne_eq_false_iff_eq, beq_eq_false_iff_ne, ne_eq, Int.ofNat_lt, Int.not_lt, Int.not_le, Int.ofNat_le, Nat.not_lt, Nat.not_le, gt_iff_lt, ge_iff_le] at h1
    apply G.skip
    apply G.seq
    have hszo := szNet_ok (n := 1048576) (ps := ps) (ks := ks) (by omega)
    have htp := tP_eq ps
    have htk0 := tK_eq ks
    have hps20 : ps.length ≤ 1048576 := by omega
    have hks20 : ks.length ≤ 1048576 := by omega
    have hpl : ps.length < 1099511627776 := by omega
    have hkl : ks.length < 1099511627776 := by omega
    have hbt : (1 : Int) + (tP ps : Int) + (tK ks : Int) ≤ 1048576000 := by omega
    have hn1 : ¬ ((1 : Int) + (tP ps : Int) + (tK ks : Int) < 0) := by omega
    clear hszo htp htk0
    refine G.rg tab_ok ok_lawObserveNetwork (hk := ?_)
    apply G.seq
    refine G.rg tab_ok ok_lawObserveNetwork (hk := ?_)
    apply G.seq
    refine G.rg tab_ok ok_lawObserveNetwork (hk := ?_)
    apply G.seq
    apply G.seq
    refine G.rg tab_ok ok_lawObserveNetwork (hk := ?_)
    refine G.fg [1, 4, 5, 6, 7, 8, 40, 41, 42, 43, 44] (hk := ?_)
    refine G.iffF (h2 := ?_)
    apply G.skip
    apply G.seq
    apply G.seq
    refine G.dr mixed tab_ok ok_lawObserveNetwork [0, 1, 2, 3, 4] (hk := ?_)
    refine G.iffF (h2 := ?_)
    apply G.skip
    apply G.seq
    refine G.rg tab_ok ok_lawObserveNetwork (hk := ?_)
    apply G.seq
    refine G.rgN 2 tab_ok ok_lawObserveNetwork (hk := ?_)
    refine G.cf [4, 5] en_markNetwork (markNetwork_mc _ ps ks 1 rfl (by omega) hbt hpl hkl) (h := ?_)
    refine G.rgC tab_ok ok_lawObserveNetwork (hk := ?_)
    apply G.seq
    apply G.seq
    refine G.rg tab_ok ok_lawObserveNetwork (hk := ?_)
    refine G.fg [1, 4, 5, 7, 61] (hk := ?_)
    refine G.iffF (h2 := ?_)
    apply G.skip
    apply G.seq
    refine G.rg tab_ok ok_lawObserveNetwork (hk := ?_)
    apply G.seq
    refine G.rgN 2 tab_ok ok_lawObserveNetwork (hk := ?_)
    refine G.cf [7] en_markIntSS (markIntSS_mc _ O.1 1 rfl (by omega) hb2 h7) (h := ?_)
    refine G.rgC tab_ok ok_lawObserveNetwork (hk := ?_)
    apply G.seq
    refine G.rg tab_ok ok_lawObserveNetwork (hk := ?_)
    apply G.seq
    refine G.rg tab_ok ok_lawObserveNetwork (hk := ?_)
    apply G.seq
    apply G.seq
    refine G.rg tab_ok ok_lawObserveNetwork (hk := ?_)
    refine G.fg [1, 4, 5, 7, 10, 11, 69] (hk := ?_)
    refine G.iffF (h2 := ?_)
    apply G.skip
    apply G.seq
    apply G.seq
    refine G.rg tab_ok ok_lawObserveNetwork (hk := ?_)
    refine G.iffF (h2 := ?_)
    apply G.skip
    apply G.seq
    refine G.rg tab_ok ok_lawObserveNetwork (hk := ?_)
    apply G.seq
    apply G.seq
    refine G.rg tab_ok ok_lawObserveNetwork (hk := ?_)
    refine G.fg [7, 10, 87] (hk := ?_)
    refine G.iffF (h2 := ?_)
    apply G.skip
    apply G.seq
    refine G.rg tab_ok ok_lawObserveNetwork (hk := ?_)
    apply G.seq
    refine G.rg tab_ok ok_lawObserveNetwork (hk := ?_)
    apply G.seq
    apply G.seq
    refine G.rg tab_ok ok_lawObserveNetwork (hk := ?_)
    refine G.iffF (h2 := ?_)
    apply G.skip
    apply G.seq
    apply G.seq
    refine G.rg tab_ok ok_lawObserveNetwork (hk := ?_)
    refine G.fg [95] (hk := ?_)
    refine G.iffF (h2 := ?_)
    apply G.skip
    apply G.seq
    refine G.rg tab_ok ok_lawObserveNetwork (hk := ?_)
    refine G.fin tab_ok (hr := ?_)
    rfl
end Go.Proofs.Ytahcojaklooliaa.Ab
