/- Walks of functions of the program: what each answers, for all arguments that meet its conditions. -/
import Derived.Test.YticgaflgbljhlaaAbX2
import Derived.Test.YticgaflgbljhlaaAbX3
import Derived.Test.YticgaflgbljhlaaFwGe
import Derived.Test.YticgaflgbljhlaaFwGh
namespace Go.Proofs.Yticgaflgbljhlaa.Ab
open Go
set_option linter.unusedVariables false
set_option linter.unusedSimpArgs false
set_option maxHeartbeats 4000000
theorem ok_lawFeedNetwork : Kn.ok Try.prog (kof [(15, q_szNetwork), (18, q_toNetwork), (29, q_toIntS), (28, q_specFeedNetwork), (30, q_implFeedNetwork), (21, q_eqNetwork), (31, q_eqIntS), (33, q_heldNetwork)]) := kof_cons k_szNetwork (kof_cons k_toNetwork (kof_cons k_toIntS (kof_cons k_specFeedNetwork (kof_cons k_implFeedNetwork (kof_cons k_eqNetwork (kof_cons k_eqIntS (kof_cons k_heldNetwork ((kof_nil _)))))))))
theorem en_markNetwork : Enters Try.prog 25 := enters_of Try.func25 rfl rfl
theorem lawFeedNetwork_ac (ps : List PG) (ks : List LK) (k : Int) (tk : List Int) (hc1 : NW ps) (hc2 : KW ks) (hc3 : ps.length < 3518437208781) (hc4 : ks.length < 2513169434844) (hc5 : tk.length < 17592186044416) : AC Try.prog 5 [.agg [.row false 3 (ps.map pv), .row false 5 (ks.map kv)], .int .i64 k, .row false 1 (tk.map iv)] (.bool true) := by
  have e_szNetwork := e_szNetwork
  have e_toNetwork := e_toNetwork
  have e_toIntS := e_toIntS
  have e_specFeedNetwork := e_specFeedNetwork
  have e_implFeedNetwork := e_implFeedNetwork
  have e_eqNetwork := e_eqNetwork
  have e_eqIntS := e_eqIntS
  have e_heldNetwork := e_heldNetwork
  obtain ⟨b1, b2, b3, b4⟩ := feed_bd ps ks k tk
  obtain ⟨O, hO⟩ : ∃ x, feedO ps ks k tk = x := ⟨_, rfl⟩
  rw [hO] at b1 b2 b3 b4
  have hOn : NW O.1 := fun p hp => by have := b3 p hp; omega
  have hOk : KW O.2.1 := fun x hx => by have := b4 x hx; omega
  have hOp : O.1.length < 3518437208781 := by omega
  have hOl : O.2.1.length < 2513169434844 := by omega
  have hO1 : O.1.length < 1099511627776 := by omega
  have hO2 : O.2.1.length < 1099511627776 := by omega
  have hOb := net_tot b1 b2 b3 b4
  have hml1 : O.1.length ≤ (mkPS 1 O.1).length := by rw [mkPS_len]; exact Nat.le_refl _
  have hml2 : O.2.1.length ≤ (mkKS (1 + (tP O.1 : Int)) O.2.1).length := by rw [mkKS_len]; exact Nat.le_refl _
  have hmk1 : List.take O.1.length ((mkPS 1 O.1).map opv) = (mkPS 1 O.1).map opv := List.take_of_length_le (by simp [mkPS_len])
  have hmk2 : List.take O.2.1.length ((mkKS (1 + (tP O.1 : Int)) O.2.1).map okv) = (mkKS (1 + (tP O.1 : Int)) O.2.1).map okv := List.take_of_length_le (by simp [mkKS_len])
  have hmp1 : (mkPS 1 O.1).length < 1099511627776 := by rw [mkPS_len]; omega
  have hmp2 : (mkKS (1 + (tP O.1 : Int)) O.2.1).length < 1099511627776 := by rw [mkKS_len]; omega
  have hmt : (1 : Int) + (tP (mkPS 1 O.1) : Int) + (tK (mkKS (1 + (tP O.1 : Int)) O.2.1) : Int) ≤ 1048576000 := by rw [mkPS_tot, mkKS_tot]; exact hOb
  have hhN : heldN 1 (mkPS 1 O.1) (mkKS (1 + (tP O.1 : Int)) O.2.1) = 1 + (tP O.1 : Int) + (tK O.2.1 : Int) := heldN_mk 1 (by omega) _ _
  have hnO : ¬ ((1 : Int) + (tP O.1 : Int) + (tK O.2.1 : Int) < 0) := by omega
  clear b1 b2 b3 b4
  refine AC.of tab_ok Try.func5 rfl (Nat.le_of_ble_eq_true rfl) fun w0 S0 => ?_
  change G _ _ ⟨[(0, .agg [.row false 3 (ps.map pv), .row false 5 (ks.map kv)]), (1, .int .i64 k), (2, .row false 1 (tk.map iv))], [], 122⟩
  apply G.seq
  refine G.rg tab_ok ok_lawFeedNetwork (hk := ?_)
  apply G.seq
  apply G.seq
  refine G.rg tab_ok ok_lawFeedNetwork (hk := ?_)
  refine G.iff (h1 := fun h1 => ?_) (h2 := fun h1 => ?_)
  · try simp only [decide_eq_true_eq, decide_eq_false_iff_not, Bool.and_eq_true, Bool.and_eq_false_imp, Bool.or_eq_true, Bool.or_eq_false_iff, Bool.not_eq_true', Bool.not_eq_false', bne_iff_ne, beq_iff_eq, bne_eq_false_iff_eq, beq_eq_false_iff_ne, ne_eq, Int.ofNat_lt, Int.not_lt, Int.not_le, Int.ofNat_le, Nat.not_lt, Nat.not_le, gt_iff_lt, ge_iff_le] at h1
    apply G.seq
    refine G.rg tab_ok ok_lawFeedNetwork (hk := ?_)
    refine G.fin tab_ok (hr := ?_)
    rfl
  · try simp only [decide_eq_true_eq, decide_eq_false_iff_not, Bool.and_eq_true, Bool.and_eq_false_imp, Bool.or_eq_true, Bool.or_eq_false_iff, Bool.not_eq_true', Bool.not_eq_false', bne_iff_ne, beq_iff_eq, bne_eq_false_iff_eq, beq_eq_false_iff_ne, ne_eq, Int.ofNat_lt, Int.not_lt, Int.not_le, Int.ofNat_le, Nat.not_lt, Nat.not_le, gt_iff_lt, ge_iff_le] at h1
    apply G.skip
    apply G.seq
    refine G.rg tab_ok ok_lawFeedNetwork (hk := ?_)
    apply G.seq
    refine G.rg tab_ok ok_lawFeedNetwork (hk := ?_)
    apply G.seq
    apply G.seq
    refine G.rg tab_ok ok_lawFeedNetwork (hk := ?_)
    refine G.fg [1, 2, 3, 26, 56, 57, 58, 59] (hk := ?_)
    refine G.iff (h1 := fun h2 => ?_) (h2 := fun h2 => ?_)
    · try simp only [decide_eq_true_eq, decide_eq_false_iff_not, Bool.and_eq_true, Bool.and_eq_false_imp, Bool.or_eq_true, Bool.or_eq_false_iff, Bool.not_eq_true', Bool.not_eq_false', bne_iff_ne, beq_iff_eq, bne_eq_false_iff_eq, beq_eq_false_iff_ne, ne_eq, Int.ofNat_lt, Int.not_lt, Int.not_le, Int.ofNat_le, Nat.not_lt, Nat.not_le, gt_iff_lt, ge_iff_le] at h2
      apply G.seq
      refine G.rg tab_ok ok_lawFeedNetwork (hk := ?_)
      refine G.fin tab_ok (hr := ?_)
      rfl
    · try simp only [decide_eq_true_eq, decide_eq_false_iff_not, Bool.and_eq_true, Bool.and_eq_false_imp, Bool.or_eq_true, Bool.or_eq_false_iff, Bool.not_eq_true', Bool.not_eq_false', bne_iff_ne, beq_iff_eq, bne_eq_false_iff_eq, beq_eq_false_iff_ne, ne_eq, Int.ofNat_lt, Int.not_lt, Int.not_le, Int.ofNat_le, Nat.not_lt, Nat.not_le, gt_iff_lt, ge_iff_le] at h2
      apply G.skip
      apply G.seq
      have hszo := szNet_ok (n := 1048576) (ps := ps) (ks := ks) (by omega)
      have htp := tP_eq ps
      have htk0 := tK_eq ks
      have hps20 : ps.length ≤ 1048576 := by omega
      have hks20 : ks.length ≤ 1048576 := by omega
      have hpl : ps.length < 1099511627776 := by omega
      have hkl : ks.length < 1099511627776 := by omega
      have hbt : (1 : Int) + (tP ps : Int) + (tK ks : Int) ≤ 1048576000 := by omega
      have hn1 : ¬ ((1 : Int) + (tP ps : Int) + (tK ks : Int) < 0) := by omega
      have hi20 : tk.length ≤ 1048576 := by omega
      have hi40 : tk.length < 1099511627776 := by omega
      have hq1 : (0 : Int) ≤ 1 + (tP ps : Int) + (tK ks : Int) := by omega
      have hq2 : (1 : Int) + (tP ps : Int) + (tK ks : Int) ≤ 1099511627776 := by omega
      have hn4 : ¬ ((1 : Int) + (tP ps : Int) + (tK ks : Int) + (tk.length : Int) < 0) := by omega
      clear hszo htp htk0
      refine G.rg tab_ok ok_lawFeedNetwork (hk := ?_)
      apply G.seq
      refine G.rg tab_ok ok_lawFeedNetwork (hk := ?_)
      apply G.seq
      refine G.rg tab_ok ok_lawFeedNetwork (hk := ?_)
      apply G.seq
      refine G.rg tab_ok ok_lawFeedNetwork (hk := ?_)
      apply G.seq
      apply G.seq
      refine G.rg tab_ok ok_lawFeedNetwork (hk := ?_)
      refine G.fg [1, 2, 3, 8, 9, 10, 11, 12, 13, 55, 56, 57, 58, 59] (hk := ?_)
      refine G.iffF (h2 := ?_)
      apply G.skip
      apply G.seq
      apply G.seq
      refine G.dr mixed tab_ok ok_lawFeedNetwork [0, 1, 2, 3, 4] (hk := ?_)
      refine G.iffF (h2 := ?_)
      apply G.skip
      apply G.seq
      apply G.seq
      refine G.rg tab_ok ok_lawFeedNetwork (hk := ?_)
      refine G.fg [1, 2, 3, 8, 9, 10, 11, 12, 13, 65] (hk := ?_)
      refine G.iffF (h2 := ?_)
      apply G.skip
      apply G.seq
      refine G.rg tab_ok ok_lawFeedNetwork (hk := ?_)
      apply G.seq
      refine G.rgN 2 tab_ok ok_lawFeedNetwork (hk := ?_)
      refine G.cf [7, 8] en_markNetwork (markNetwork_mc _ ps ks 1 rfl (by omega) hbt hpl hkl) (h := ?_)
      refine G.rgC tab_ok ok_lawFeedNetwork (hk := ?_)
      apply G.seq
      refine G.rgN 2 tab_ok ok_lawFeedNetwork (hk := ?_)
      refine G.cf [10] en_markIntS (markIntS_mc [some (1, tk.map iv)] 0 tk (1 + (tP ps : Int) + (tK ks : Int)) rfl hq1 hq2 hi40) (h := ?_)
      refine G.rgC tab_ok ok_lawFeedNetwork (hk := ?_)
      apply G.seq
      apply G.seq
      refine G.rg tab_ok ok_lawFeedNetwork (hk := ?_)
      refine G.fg [1, 2, 3, 8, 9, 12, 84] (hk := ?_)
      refine G.iffF (h2 := ?_)
      apply G.skip
      apply G.seq
      refine G.rg tab_ok ok_lawFeedNetwork (hk := ?_)
      apply G.seq
      refine G.rgN 2 tab_ok ok_lawFeedNetwork (hk := ?_)
      refine G.cf [11, 12] en_markNetwork (markNetwork_mc _ O.1 O.2.1 1 rfl (by omega) hOb hO1 hO2) (h := ?_)
      refine G.rgC tab_ok ok_lawFeedNetwork (hk := ?_)
      apply G.seq
      refine G.rg tab_ok ok_lawFeedNetwork (hk := ?_)
      apply G.seq
      refine G.rg tab_ok ok_lawFeedNetwork (hk := ?_)
      apply G.seq
      apply G.seq
      refine G.rg tab_ok ok_lawFeedNetwork (hk := ?_)
      refine G.fg [1, 2, 3, 8, 9, 12, 15, 16, 92] (hk := ?_)
      refine G.iffF (h2 := ?_)
      apply G.skip
      apply G.seq
      apply G.seq
      refine G.rg tab_ok ok_lawFeedNetwork (hk := ?_)
      refine G.iffF (h2 := ?_)
      apply G.skip
      apply G.seq
      refine G.rg tab_ok ok_lawFeedNetwork (hk := ?_)
      apply G.seq
      apply G.seq
      refine G.rg tab_ok ok_lawFeedNetwork (hk := ?_)
      refine G.fg [12, 15, 113] (hk := ?_)
      refine G.iffF (h2 := ?_)
      apply G.skip
      apply G.seq
      refine G.rg tab_ok ok_lawFeedNetwork (hk := ?_)
      apply G.seq
      refine G.rg tab_ok ok_lawFeedNetwork (hk := ?_)
      apply G.seq
      apply G.seq
      refine G.rg tab_ok ok_lawFeedNetwork (hk := ?_)
      refine G.iffF (h2 := ?_)
      apply G.skip
      apply G.seq
      apply G.seq
      refine G.rg tab_ok ok_lawFeedNetwork (hk := ?_)
      refine G.fg [121] (hk := ?_)
      refine G.iffF (h2 := ?_)
      apply G.skip
      apply G.seq
      refine G.rg tab_ok ok_lawFeedNetwork (hk := ?_)
      refine G.fin tab_ok (hr := ?_)
      rfl
end Go.Proofs.Yticgaflgbljhlaa.Ab
