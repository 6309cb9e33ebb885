/- Walks of functions of the program: what each answers, for all arguments that meet its conditions. -/
import Derived.Test.YticgaflgbljhlaaFwGj
import Derived.Test.YticgaflgbljhlaaFwGe
import Derived.Test.YticgaflgbljhlaaFwGh
namespace Go.Proofs.Yticgaflgbljhlaa.Ab
open Go
set_option linter.unusedVariables false
set_option linter.unusedSimpArgs false
set_option maxHeartbeats 4000000
theorem ok_lawRoundOf : Kn.ok Try.prog (kof [(15, q_szNetwork), (45, q_szIntSS), (18, q_toNetwork), (47, q_toIntSS), (46, q_specRoundOf), (48, q_implRoundOf), (21, q_eqNetwork), (49, q_eqIntSS), (51, q_heldIntSS)]) := kof_cons k_szNetwork (kof_cons k_szIntSS (kof_cons k_toNetwork (kof_cons k_toIntSS (kof_cons k_specRoundOf (kof_cons k_implRoundOf (kof_cons k_eqNetwork (kof_cons k_eqIntSS (kof_cons k_heldIntSS ((kof_nil _))))))))))
theorem en_markNetwork : Enters Try.prog 25 := enters_of Try.func25 rfl rfl
theorem en_markIntSS : Enters Try.prog 50 := enters_of Try.func50 rfl rfl
theorem lawRoundOf_ac (ps : List PG) (ks : List LK) (hs : List (List Int)) (hc1 : NW ps) (hc2 : KW ks) (hc3 : ps.length < 3518437208781) (hc4 : ks.length < 2513169434844) (hc5 : hs.length < 5864062014805) (hc6 : LW hs) : AC Try.prog 11 [.agg [.row false 3 (ps.map pv), .row false 5 (ks.map kv)], .row false 1 (hs.map ivL)] (.bool true) := by
  have e_szNetwork := e_szNetwork
  have e_szIntSS := e_szIntSS
  have e_toNetwork := e_toNetwork
  have e_toIntSS := e_toIntSS
  have e_specRoundOf := e_specRoundOf
  have e_implRoundOf := e_implRoundOf
  have e_eqNetwork := e_eqNetwork
  have e_eqIntSS := e_eqIntSS
  have e_heldIntSS := e_heldIntSS
  have hivl := ivL_eq
  have hro := roLL_ovL
  have hpov := pureLL_ovL
  have hnov := noLoanLL_ovL
  have hsz : szNet 1048576 ps ks ≤ 1048576 := szNet_le (by omega)
  obtain ⟨b1, b3⟩ := round_bd ps ks hs
  obtain ⟨O, hO⟩ : ∃ x, roundO ps ks hs = x := ⟨_, rfl⟩
  rw [hO] at b1 b3
  have hbt2 := tot_most b3
  have hLW : LW O.1 := fun r hr => by have := b3 r hr; omega
  have hLM : LW (mkSS 1 O.1) := fun r hr => by have := mkSS_mem 1 b3 r hr; omega
  have h4 : O.1.length < 5864062014805 := by omega
  have h7 : O.1.length < 1099511627776 := by omega
  have hh1 : heldSS 1 (mkSS 1 O.1) = 1 + (tot O.1 : Int) := heldSS_mk 1 (by omega) O.1
  have htm : (1 : Int) + (tot (mkSS 1 O.1) : Int) ≤ 1048576000 := by rw [mkSS_tot]; omega
  have hml : (mkSS 1 O.1).length < 1099511627776 := by rw [mkSS_len]; omega
  have hml2 : O.1.length ≤ (mkSS 1 O.1).length := by rw [mkSS_len]; exact Nat.le_refl _
  have hmB : (mkSS 1 O.1).length < 5864062014805 := by rw [mkSS_len]; omega
  have htk1 : List.take O.1.length (List.map ovL (mkSS 1 O.1)) = List.map ovL (mkSS 1 O.1) := List.take_of_length_le (by simp [mkSS_len])
  have hn2 : ¬ (1 + (tot O.1 : Int) < 0) := by omega
  have hb2 : (1 : Int) + (tot O.1 : Int) ≤ 1048576000 := by omega
  clear b1 b3 hbt2
  refine AC.of tab_ok Try.func11 rfl (Nat.le_of_ble_eq_true rfl) fun w0 S0 => ?_
  change G _ _ ⟨[(0, .agg [.row false 3 (ps.map pv), .row false 5 (ks.map kv)]), (1, .row false 1 (hs.map ivL))], [], 119⟩
  apply G.seq
  refine G.rg tab_ok ok_lawRoundOf (hk := ?_)
  apply G.seq
  refine G.rg tab_ok ok_lawRoundOf (hk := ?_)
  apply G.seq
  refine G.rg tab_ok ok_lawRoundOf (hk := ?_)
  apply G.seq
  apply G.seq
  refine G.rg tab_ok ok_lawRoundOf (hk := ?_)
  refine G.fg [1, 2, 5, 21, 54, 55, 56, 57] (hk := ?_)
  refine G.iff (h1 := fun h1 => ?_) (h2 := fun h1 => ?_)
  · try simp only [decide_eq_true_eq, decide_eq_false_iff_not, Bool.and_eq_true, Bool.and_eq_false_imp, Bool.or_eq_true, Bool.or_eq_false_iff, Bool.not_eq_true', Bool.not_eq_false', bne_iff_ne, beq_iff_eq, bne_eq_false_iff_eq, beq_eq_false_iff_ne, ne_eq, Int.ofNat_lt, Int.not_lt, Int.not_le, Int.ofNat_le, Nat.not_lt, Nat.not_le, gt_iff_lt, ge_iff_le] at h1
    apply G.seq
    refine G.rg tab_ok ok_lawRoundOf (hk := ?_)
    refine G.fin tab_ok (hr := ?_)
    rfl
  · try simp only [decide_eq_true_eq, decide_eq_false_iff_not, Bool.and_eq_true, Bool.and_eq_false_imp, Bool.or_eq_true, Bool.or_eq_false_iff, Bool.not_eq_true', Bool.not_eq_false', bne_iff_ne, beq_iff_eq, bne_eq_false_iff_eq, beq_eq_false_iff_ne, ne_eq, Int.ofNat_lt, Int.not_lt, Int.not_le, Int.ofNat_le, Nat.not_lt, Nat.not_le, gt_iff_lt, ge_iff_le] at h1
    apply G.skip
    apply G.seq
    refine G.rg tab_ok ok_lawRoundOf (hk := ?_)
    apply G.seq
    apply G.seq
    refine G.rg tab_ok ok_lawRoundOf (hk := ?_)
    refine G.iff (h1 := fun h2 => ?_) (h2 := fun h2 => ?_)
    · try simp only [decide_eq_true_eq, decide_eq_false_iff_not, Bool.and_eq_true, Bool.and_eq_false_imp, Bool.or_eq_true, Bool.or_eq_false_iff, Bool.not_eq_true', Bool.not_eq_false', bne_iff_ne, beq_iff_eq, bne_eq_false_iff_eq, beq_eq_false_iff_ne, ne_eq, Int.ofNat_lt, Int.not_lt, Int.not_le, Int.ofNat_le, Nat.not_lt, Nat.not_le, gt_iff_lt, ge_iff_le] at h2
      apply G.seq
      refine G.rg tab_ok ok_lawRoundOf (hk := ?_)
      refine G.fin tab_ok (hr := ?_)
      rfl
    · try simp only [decide_eq_true_eq, decide_eq_false_iff_not, Bool.and_eq_true, Bool.and_eq_false_imp, Bool.or_eq_true, Bool.or_eq_false_iff, Bool.not_eq_true', Bool.not_eq_false', bne_iff_ne, beq_iff_eq, bne_eq_false_iff_eq, beq_eq_false_iff_ne, ne_eq, Int.ofNat_lt, Int.not_lt, Int.not_le, Int.ofNat_le, Nat.not_lt, Nat.not_le, gt_iff_lt, ge_iff_le] at h2
      apply G.skip
      apply G.seq
      have hszo := szNet_ok (n := 1048576) (ps := ps) (ks := ks) (by omega)
      have htp := tP_eq ps
      have htk0 := tK_eq ks
      have hps20 : ps.length ≤ 1048576 := by omega
      have hks20 : ks.length ≤ 1048576 := by omega
      have hpl : ps.length < 1099511627776 := by omega
      have hkl : ks.length < 1099511627776 := by omega
      have hbt : (1 : Int) + (tP ps : Int) + (tK ks : Int) ≤ 1048576000 := by omega
      have hn1 : ¬ ((1 : Int) + (tP ps : Int) + (tK ks : Int) < 0) := by omega
      have hsso := szSS_ok (n := szNet 1048576 ps ks) (rs := hs) (by omega)
      have hqb : (hs.length : Int) + (tot hs : Int) ≤ 1048576 := by omega
      have hqb2 : (1 : Int) + (tP ps : Int) + (tK ks : Int) + (tot hs : Int) ≤ 1048576000 := by omega
      have hn4 : ¬ ((1 : Int) + (tP ps : Int) + (tK ks : Int) + (tot hs : Int) < 0) := by omega
      have hh40 : hs.length < 1099511627776 := by omega
      clear hsso hszo htp htk0
      refine G.rg tab_ok ok_lawRoundOf (hk := ?_)
      apply G.seq
      refine G.rg tab_ok ok_lawRoundOf (hk := ?_)
      apply G.seq
      refine G.rg tab_ok ok_lawRoundOf (hk := ?_)
      apply G.seq
      refine G.rg tab_ok ok_lawRoundOf (hk := ?_)
      apply G.seq
      apply G.seq
      refine G.fg [1, 2, 6, 7, 8, 9, 10, 11, 54, 55, 56, 57] (hk := ?_)
      refine G.rg tab_ok ok_lawRoundOf (hk := ?_)
      refine G.fg [1, 2, 6, 7, 8, 9, 10, 11, 53, 54, 55, 56, 57] (hk := ?_)
      refine G.iffF (h2 := ?_)
      apply G.skip
      apply G.seq
      apply G.seq
      refine G.dr mixed tab_ok ok_lawRoundOf [0, 1, 2, 3, 4] (hk := ?_)
      refine G.iffF (h2 := ?_)
      apply G.skip
      apply G.seq
      apply G.seq
      refine G.rg tab_ok ok_lawRoundOf (hk := ?_)
      refine G.fg [1, 2, 6, 7, 8, 9, 10, 11, 63] (hk := ?_)
      refine G.iffF (h2 := ?_)
      apply G.skip
      apply G.seq
      refine G.rg tab_ok ok_lawRoundOf (hk := ?_)
      apply G.seq
      refine G.rgN 2 tab_ok ok_lawRoundOf (hk := ?_)
      refine G.cf [5, 6] en_markNetwork (markNetwork_mc _ ps ks 1 rfl (by omega) hbt hpl hkl) (h := ?_)
      refine G.rgC tab_ok ok_lawRoundOf (hk := ?_)
      apply G.seq
      refine G.rgN 2 tab_ok ok_lawRoundOf (hk := ?_)
      refine G.cf [8] en_markIntSS (markIntSS_mc _ hs (1 + (tP ps : Int) + (tK ks : Int)) rfl (by omega) hqb2 hh40) (h := ?_)
      refine G.rgC tab_ok ok_lawRoundOf (hk := ?_)
      apply G.seq
      apply G.seq
      refine G.rg tab_ok ok_lawRoundOf (hk := ?_)
      refine G.fg [1, 2, 6, 7, 10, 82] (hk := ?_)
      refine G.iffF (h2 := ?_)
      apply G.skip
      apply G.seq
      refine G.rg tab_ok ok_lawRoundOf (hk := ?_)
      apply G.seq
      refine G.rgN 2 tab_ok ok_lawRoundOf (hk := ?_)
      refine G.cf [9] en_markIntSS (markIntSS_mc _ O.1 1 rfl (by omega) hb2 h7) (h := ?_)
      refine G.rgC tab_ok ok_lawRoundOf (hk := ?_)
      apply G.seq
      refine G.rg tab_ok ok_lawRoundOf (hk := ?_)
      apply G.seq
      refine G.rg tab_ok ok_lawRoundOf (hk := ?_)
      apply G.seq
      apply G.seq
      refine G.rg tab_ok ok_lawRoundOf (hk := ?_)
      refine G.fg [1, 2, 6, 7, 10, 13, 14, 90] (hk := ?_)
      refine G.iffF (h2 := ?_)
      apply G.skip
      apply G.seq
      apply G.seq
      refine G.rg tab_ok ok_lawRoundOf (hk := ?_)
      refine G.iffF (h2 := ?_)
      apply G.skip
      apply G.seq
      refine G.rg tab_ok ok_lawRoundOf (hk := ?_)
      apply G.seq
      apply G.seq
      refine G.rg tab_ok ok_lawRoundOf (hk := ?_)
      refine G.fg [10, 13, 110] (hk := ?_)
      refine G.iffF (h2 := ?_)
      apply G.skip
      apply G.seq
      refine G.rg tab_ok ok_lawRoundOf (hk := ?_)
      apply G.seq
      refine G.rg tab_ok ok_lawRoundOf (hk := ?_)
      apply G.seq
      apply G.seq
      refine G.rg tab_ok ok_lawRoundOf (hk := ?_)
      refine G.iffF (h2 := ?_)
      apply G.skip
      apply G.seq
      apply G.seq
      refine G.rg tab_ok ok_lawRoundOf (hk := ?_)
      refine G.fg [118] (hk := ?_)
      refine G.iffF (h2 := ?_)
      apply G.skip
      apply G.seq
      refine G.rg tab_ok ok_lawRoundOf (hk := ?_)
      refine G.fin tab_ok (hr := ?_)
      rfl
end Go.Proofs.Yticgaflgbljhlaa.Ab
