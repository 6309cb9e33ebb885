/- Walks of functions of the program: what each answers, for all arguments that meet its conditions. -/
import Derived.Test.YtahcojaklooliaaAbY7
import Derived.Test.YtahcojaklooliaaAbY6
import Derived.Test.YtahcojaklooliaaAbY5
import Derived.Test.YtahcojaklooliaaFwGe
import Derived.Test.YtahcojaklooliaaFwGh
import Derived.Test.YtahcojaklooliaaFwGc
namespace Go.Proofs.Ytahcojaklooliaa.Ab
open Go
set_option linter.unusedVariables false
set_option linter.unusedSimpArgs false
set_option maxHeartbeats 4000000
theorem ok_lawReachedFrom : Kn.ok Try.prog (kof [(12, q_szNetwork), (14, q_toNetwork), (26, q_specReachedFrom), (27, q_implReachedFrom), (17, q_eqNetwork), (23, q_eqIntS), (25, q_heldIntS)]) := kof_cons k_szNetwork (kof_cons k_toNetwork (kof_cons k_specReachedFrom (kof_cons k_implReachedFrom (kof_cons k_eqNetwork (kof_cons k_eqIntS (kof_cons k_heldIntS ((kof_nil _))))))))
theorem en_markNetwork : Enters Try.prog 18 := enters_of Try.func18 rfl rfl
theorem heldI_mkR (n : Int) (k : Nat) : heldI n (mkI n k) = n + k := by unfold heldI; rw [mkI_len, if_pos rfl]
theorem lawReachedFrom_ac (ps : List PG) (ks : List LK) (p : Int) (hc1 : NW ps) (hc2 : KW ks) (hc3 : ps.length < 3518437208781) (hc4 : ks.length < 2513169434844) : AC Try.prog 5 [.agg [.row false 3 (ps.map pv), .row false 5 (ks.map kv)], .int .i64 p] (.bool true) := by
  have e_szNetwork := e_szNetwork
  have e_toNetwork := e_toNetwork
  have e_specReachedFrom := e_specReachedFrom
  have e_implReachedFrom := e_implReachedFrom
  have e_eqNetwork := e_eqNetwork
  have e_eqIntS := e_eqIntS
  have e_heldIntS := e_heldIntS
  have hivl := ivL_eq
  have hro := roLL_ovL
  have hpov := pureLL_ovL
  have hnov := noLoanLL_ovL
  have hsz : szNet 1048576 ps ks ≤ 1048576 := szNet_le (by omega)
  have hol := reachO_len ps ks p
  obtain ⟨O, hO⟩ : ∃ x, reachO ps ks p = x := ⟨_, rfl⟩
  rw [hO] at hol
  have h5 : O.1.length < 17592186044416 := by omega
  have h6 : O.1.length < 1099511627776 := by omega
  have hmk := mkI_len
  have hhm := heldI_mkR
  have htk : List.take O.1.length (List.map iv (mkI 1 O.1.length)) = List.map iv (mkI 1 O.1.length) := List.take_of_length_le (by simp [mkI_len])
  have hn2 : ¬ (1 + (O.1.length : Int) < 0) := by omega
  refine AC.of tab_ok Try.func5 rfl (Nat.le_of_ble_eq_true rfl) fun w0 S0 => ?_
  change G _ _ ⟨[(0, .agg [.row false 3 (ps.map pv), .row false 5 (ks.map kv)]), (1, .int .i64 p)], [], 101⟩
  apply G.seq
  refine G.rg tab_ok ok_lawReachedFrom (hk := ?_)
  apply G.seq
  refine G.rg tab_ok ok_lawReachedFrom (hk := ?_)
  apply G.seq
  refine G.rg tab_ok ok_lawReachedFrom (hk := ?_)
  apply G.seq
  apply G.seq
  refine G.rg tab_ok ok_lawReachedFrom (hk := ?_)
  refine G.fg [1, 2, 20, 45, 46, 47, 48] (hk := ?_)
  refine G.iff (h1 := fun h1 => ?_) (h2 := fun h1 => ?_)
  · try simp only [decide_eq_true_eq, decide_eq_false_iff_not, Bool.and_eq_true, Bool.and_eq_false_imp, Bool.or_eq_true, Bool.or_eq_false_iff, Bool.not_eq_true', Bool.not_eq_false', bne_iff_ne, beq_iff_eq, bne_eq_false_iff_eq, beq_eq_false_iff_ne, ne_eq, Int.ofNat_lt, Int.not_lt, Int.not_le, Int.ofNat_le, Nat.not_lt, Nat.not_le, gt_iff_lt, ge_iff_le] at h1
    apply G.seq
    refine G.rg tab_ok ok_lawReachedFrom (hk := ?_)
    refine G.fin tab_ok (hr := ?_)
    rfl
  · try simp only [decide_eq_true_eq, decide_eq_false_iff_not, Bool.and_eq_true, Bool.and_eq_false_imp, Bool.or_eq_true, Bool.or_eq_false_iff, Bool.not_eq_true', Bool.not_eq_false', bne_iff_ne, beq_iff_eq, bne_eq_false_iff_eq, beq_eq_false_iff_ne, ne_eq, Int.ofNat_lt, Int.not_lt, Int.not_le, Int.ofNat_le, Nat.not_lt, Nat.not_le, gt_iff_lt, ge_iff_le] at h1
    apply G.skip
    apply G.seq
    have hszo := szNet_ok (n := 1048576) (ps := ps) (ks := ks) (by omega)
    have htp := tP_eq ps
    have htk0 := tK_eq ks
    have hps20 : ps.length ≤ 1048576 := by omega
    have hks20 : ks.length ≤ 1048576 := by omega
    have hpl : ps.length < 1099511627776 := by omega
    have hkl : ks.length < 1099511627776 := by omega
    have hbt : (1 : Int) + (tP ps : Int) + (tK ks : Int) ≤ 1048576000 := by omega
    have hn1 : ¬ ((1 : Int) + (tP ps : Int) + (tK ks : Int) < 0) := by omega
    clear hszo htp htk0
    refine G.rg tab_ok ok_lawReachedFrom (hk := ?_)
    apply G.seq
    refine G.rg tab_ok ok_lawReachedFrom (hk := ?_)
    apply G.seq
    refine G.rg tab_ok ok_lawReachedFrom (hk := ?_)
    apply G.seq
    apply G.seq
    refine G.rg tab_ok ok_lawReachedFrom (hk := ?_)
    refine G.fg [1, 2, 6, 7, 8, 9, 10, 44, 45, 46, 47, 48] (hk := ?_)
    refine G.iffF (h2 := ?_)
    apply G.skip
    apply G.seq
    apply G.seq
    refine G.dr mixed tab_ok ok_lawReachedFrom [0, 1, 2, 3, 4] (hk := ?_)
    refine G.iffF (h2 := ?_)
    apply G.skip
    apply G.seq
    refine G.rg tab_ok ok_lawReachedFrom (hk := ?_)
    apply G.seq
    refine G.rgN 2 tab_ok ok_lawReachedFrom (hk := ?_)
    refine G.cf [4, 5] en_markNetwork (markNetwork_mc _ ps ks 1 rfl (by omega) hbt hpl hkl) (h := ?_)
    refine G.rgC tab_ok ok_lawReachedFrom (hk := ?_)
    apply G.seq
    apply G.seq
    refine G.rg tab_ok ok_lawReachedFrom (hk := ?_)
    refine G.fg [1, 2, 6, 7, 9, 65] (hk := ?_)
    refine G.iffF (h2 := ?_)
    apply G.skip
    apply G.seq
    refine G.rg tab_ok ok_lawReachedFrom (hk := ?_)
    apply G.seq
    refine G.rgN 2 tab_ok ok_lawReachedFrom (hk := ?_)
    refine G.cf [7] en_markIntS (markIntS_mc [some (1, O.1.map iv)] 0 O.1 1 rfl (by omega) (by omega) h6) (h := ?_)
    refine G.rgC tab_ok ok_lawReachedFrom (hk := ?_)
    apply G.seq
    refine G.rg tab_ok ok_lawReachedFrom (hk := ?_)
    apply G.seq
    refine G.rg tab_ok ok_lawReachedFrom (hk := ?_)
    apply G.seq
    apply G.seq
    refine G.rg tab_ok ok_lawReachedFrom (hk := ?_)
    refine G.fg [1, 2, 6, 7, 9, 12, 13, 73] (hk := ?_)
    refine G.iffF (h2 := ?_)
    apply G.skip
    apply G.seq
    apply G.seq
    refine G.rg tab_ok ok_lawReachedFrom (hk := ?_)
    refine G.iffF (h2 := ?_)
    apply G.skip
    apply G.seq
    refine G.rg tab_ok ok_lawReachedFrom (hk := ?_)
    apply G.seq
    apply G.seq
    refine G.rg tab_ok ok_lawReachedFrom (hk := ?_)
    refine G.fg [9, 12, 92] (hk := ?_)
    refine G.iffF (h2 := ?_)
    apply G.skip
    apply G.seq
    refine G.rg tab_ok ok_lawReachedFrom (hk := ?_)
    apply G.seq
    refine G.rg tab_ok ok_lawReachedFrom (hk := ?_)
    apply G.seq
    apply G.seq
    refine G.rg tab_ok ok_lawReachedFrom (hk := ?_)
    refine G.iffF (h2 := ?_)
    apply G.skip
    apply G.seq
    apply G.seq
    refine G.rg tab_ok ok_lawReachedFrom (hk := ?_)
    refine G.fg [100] (hk := ?_)
    refine G.iffF (h2 := ?_)
    apply G.skip
    apply G.seq
    refine G.rg tab_ok ok_lawReachedFrom (hk := ?_)
    refine G.fin tab_ok (hr := ?_)
    rfl
end Go.Proofs.Ytahcojaklooliaa.Ab
