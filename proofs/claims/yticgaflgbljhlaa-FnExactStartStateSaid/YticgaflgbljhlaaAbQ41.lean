/- Walks of functions of the program: what each answers, for all arguments that meet its conditions. -/
import Derived.Test.YticgaflgbljhlaaAbN1
import Derived.Test.YticgaflgbljhlaaAbN2
import Derived.Test.YticgaflgbljhlaaAbS1
import Derived.Test.YticgaflgbljhlaaAbS5
import Derived.Test.YticgaflgbljhlaaAbS6
import Derived.Test.YticgaflgbljhlaaAbS7
import Derived.Test.YticgaflgbljhlaaAbM1
namespace Go.Proofs.Yticgaflgbljhlaa.Ab
open Go
set_option linter.unusedVariables false
set_option linter.unusedSimpArgs false
set_option maxHeartbeats 4000000

theorem ok_lawStartState : Kn.ok Try.prog (kof [(15, q_szNetwork), (18, q_toNetwork), (23, q_specStartState), (24, q_implStartState), (22, q_eqState), (21, q_eqNetwork), (27, q_heldState)]) := kof_cons k_szNetwork (kof_cons k_toNetwork (kof_cons k_specStartState (kof_cons k_implStartState (kof_cons k_eqState (kof_cons k_eqNetwork (kof_cons k_heldState ((kof_nil _))))))))
theorem en_markNetwork : Enters Try.prog 25 := enters_of Try.func25 rfl rfl
theorem en_markState : Enters Try.prog 26 := enters_of Try.func26 rfl rfl
theorem lawStartState_ac (ps : List PG) (ks : List LK) (hc1 : NW ps) (hc2 : KW ks) (hc3 : ps.length < 3518437208781) (hc4 : ks.length < 2513169434844) : AC Try.prog 4 [.agg [.row false 3 (ps.map pv), .row false 5 (ks.map kv)]] (.bool true) := by
  have e_szNetwork := e_szNetwork
  have e_toNetwork := e_toNetwork
  have e_specStartState := e_specStartState
  have e_implStartState := e_implStartState
  have e_eqState := e_eqState
  have e_eqNetwork := e_eqNetwork
  have e_heldState := e_heldState
  have hivl := ivL_eq
  have hro := roLL_ovL
  have hpov := pureLL_ovL
  have hnov := noLoanLL_ovL
  obtain ⟨b1, b2, b3, b4, b5, b6⟩ := start_bd ps ks
  obtain ⟨O, hO⟩ : ∃ x, startO ps ks = x := ⟨_, rfl⟩
  rw [hO] at b1 b2 b3 b4 b5 b6
  have hOx : XW O.xs := fun x hx => by have := b4 x hx; omega
  have hOq : LW O.qs := fun x hx => by have := b5 x hx; omega
  have hOh : LW O.hs := fun x hx => by have := b6 x hx; omega
  have hO1 : O.xs.length < 4398046511104 := by omega
  have hO2 : O.qs.length < 5864062014805 := by omega
  have hO3 : O.hs.length < 5864062014805 := by omega
  have hO4 : O.xs.length < 1099511627776 := by omega
  have hO5 : O.qs.length < 1099511627776 := by omega
  have hO6 : O.hs.length < 1099511627776 := by omega
  have hOb := st_tot b1 b2 b3 b4 b5 b6
  have hml1 : O.xs.length ≤ (mkAS 1 O.xs).length := by rw [mkAS_len]; exact Nat.le_refl _
  have hml2 : O.qs.length ≤ (mkSS (1 + (tA O.xs : Int)) O.qs).length := by rw [mkSS_len]; exact Nat.le_refl _
  have hml3 : O.hs.length ≤ (mkSS (1 + (tA O.xs : Int) + (tot O.qs : Int)) O.hs).length := by rw [mkSS_len]; exact Nat.le_refl _
  have hmk1 : List.take O.xs.length ((mkAS 1 O.xs).map oav) = (mkAS 1 O.xs).map oav := List.take_of_length_le (by simp [mkAS_len])
  have hmk2 : List.take O.qs.length ((mkSS (1 + (tA O.xs : Int)) O.qs).map ovL) = (mkSS (1 + (tA O.xs : Int)) O.qs).map ovL := List.take_of_length_le (by simp [mkSS_len])
  have hmk3 : List.take O.hs.length ((mkSS (1 + (tA O.xs : Int) + (tot O.qs : Int)) O.hs).map ovL) = (mkSS (1 + (tA O.xs : Int) + (tot O.qs : Int)) O.hs).map ovL := List.take_of_length_le (by simp [mkSS_len])
  have hmp1 : (mkAS 1 O.xs).length < 1099511627776 := by rw [mkAS_len]; omega
  have hmp2 : (mkSS (1 + (tA O.xs : Int)) O.qs).length < 1099511627776 := by rw [mkSS_len]; omega
  have hmp3 : (mkSS (1 + (tA O.xs : Int) + (tot O.qs : Int)) O.hs).length < 1099511627776 := by rw [mkSS_len]; omega
  have hmw2 : LW (mkSS (1 + (tA O.xs : Int)) O.qs) := fun x hx => by have := mkSS_mem _ b5 x hx; omega
  have hmw3 : LW (mkSS (1 + (tA O.xs : Int) + (tot O.qs : Int)) O.hs) := fun x hx => by have := mkSS_mem _ b6 x hx; omega
  have hmt : (1 : Int) + (tA (mkAS 1 O.xs) : Int) + (tot (mkSS (1 + (tA O.xs : Int)) O.qs) : Int) + (tot (mkSS (1 + (tA O.xs : Int) + (tot O.qs : Int)) O.hs) : Int) ≤ 1048576000 := by rw [mkAS_tot, mkSS_tot, mkSS_tot]; exact hOb
  have hhN : heldSt 1 (mkAS 1 O.xs) (mkSS (1 + (tA O.xs : Int)) O.qs) (mkSS (1 + (tA O.xs : Int) + (tot O.qs : Int)) O.hs) = 1 + (tA O.xs : Int) + (tot O.qs : Int) + (tot O.hs : Int) := heldSt_mk 1 (by omega) _ _ _
  have hnO : ¬ ((1 : Int) + (tA O.xs : Int) + (tot O.qs : Int) + (tot O.hs : Int) < 0) := by omega
  clear b1 b2 b3 b4 b5 b6
  refine AC.of tab_ok Try.func4 rfl (Nat.le_of_ble_eq_true rfl) fun w0 S0 => ?_
  change G _ _ ⟨[(0, .agg [.row false 3 (ps.map pv), .row false 5 (ks.map kv)])], [], 69⟩
  apply G.seq
  refine G.rg tab_ok ok_lawStartState (hk := ?_)
  apply G.seq
  refine G.rg tab_ok ok_lawStartState (hk := ?_)
  apply G.seq
  refine G.rg tab_ok ok_lawStartState (hk := ?_)
  apply G.seq
  apply G.seq
  refine G.rg tab_ok ok_lawStartState (hk := ?_)
  refine G.fg [1, 15, 27, 28, 29, 30] (hk := ?_)
  refine G.iff (h1 := fun h1 => ?_) (h2 := fun h1 => ?_)
  · try simp only [decide_eq_true_eq, decide_eq_false_iff_not, Bool.and_eq_true, Bool.and_eq_false_imp, Bool.or_eq_true, Bool.or_eq_false_iff, Bool.not_eq_true', Bool.not_eq_false', bne_iff_ne, beq_iff_eq, bne_eq_false_iff_eq, beq_eq_false_iff_ne, ne_eq, Int.ofNat_lt, Int.not_lt, Int.not_le, Int.ofNat_le, Nat.not_lt, Nat.not_le, gt_iff_lt, ge_iff_le] at h1
    apply G.seq
    refine G.rg tab_ok ok_lawStartState (hk := ?_)
    refine G.fin tab_ok (hr := ?_)
    rfl
  · try simp only [decide_eq_true_eq, decide_eq_false_iff_not, Bool.and_eq_true, Bool.and_eq_false_imp, Bool.or_eq_true, Bool.or_eq_false_iff, Bool.not_eq_true', Bool.not_eq_false', bne_iff_ne, beq_iff_eq, bne_eq_false_iff_eq, beq_eq_false_iff_ne, ne_eq, Int.ofNat_lt, Int.not_lt, Int.not_le, Int.ofNat_le, Nat.not_lt, Nat.not_le, gt_iff_lt, ge_iff_le] at h1
    apply G.skip
    apply G.seq
    have hszo := szNet_ok (n := 1048576) (ps := ps) (ks := ks) (by omega)
    have htp := tP_eq ps
    have htk0 := tK_eq ks
    have hps20 : ps.length ≤ 1048576 := by omega
    have hks20 : ks.length ≤ 1048576 := by omega
    have hpl : ps.length < 1099511627776 := by omega
    have hkl : ks.length < 1099511627776 := by omega
    have hbt : (1 : Int) + (tP ps : Int) + (tK ks : Int) ≤ 1048576000 := by omega
    have hn1 : ¬ ((1 : Int) + (tP ps : Int) + (tK ks : Int) < 0) := by omega
    clear hszo htp htk0
    refine G.rg tab_ok ok_lawStartState (hk := ?_)
    apply G.seq
    refine G.rg tab_ok ok_lawStartState (hk := ?_)
    apply G.seq
    refine G.rg tab_ok ok_lawStartState (hk := ?_)
    apply G.seq
    apply G.seq
    refine G.rg tab_ok ok_lawStartState (hk := ?_)
    refine G.fg [1, 4, 5, 6, 26, 27, 28, 29, 30] (hk := ?_)
    refine G.iffF (h2 := ?_)
    apply G.skip
    apply G.seq
    apply G.seq
    refine G.dr mixed tab_ok ok_lawStartState [0, 1, 2, 3, 4] (hk := ?_)
    refine G.iffF (h2 := ?_)
    apply G.skip
    apply G.seq
    refine G.rg tab_ok ok_lawStartState (hk := ?_)
    apply G.seq
    refine G.rgN 2 tab_ok ok_lawStartState (hk := ?_)
    refine G.cf [7, 8] en_markNetwork (markNetwork_mc _ ps ks 1 rfl (by omega) hbt hpl hkl) (h := ?_)
    refine G.rgC tab_ok ok_lawStartState (hk := ?_)
    apply G.seq
    apply G.seq
    refine G.rg tab_ok ok_lawStartState (hk := ?_)
    refine G.fg [1, 4, 6, 42] (hk := ?_)
    refine G.iffF (h2 := ?_)
    apply G.skip
    apply G.seq
    refine G.rg tab_ok ok_lawStartState (hk := ?_)
    apply G.seq
    refine G.rgN 2 tab_ok ok_lawStartState (hk := ?_)
    refine G.cf [10, 11, 12] en_markState (markState_mc _ O.xs O.qs O.hs O.t 1 rfl (by omega) hOb hO4 hO5 hO6) (h := ?_)
    refine G.rgC tab_ok ok_lawStartState (hk := ?_)
    apply G.seq
    refine G.rg tab_ok ok_lawStartState (hk := ?_)
    apply G.seq
    refine G.rg tab_ok ok_lawStartState (hk := ?_)
    apply G.seq
    apply G.seq
    refine G.rg tab_ok ok_lawStartState (hk := ?_)
    refine G.fg [1, 4, 6, 8, 9, 50] (hk := ?_)
    refine G.iffF (h2 := ?_)
    apply G.skip
    apply G.seq
    apply G.seq
    refine G.rg tab_ok ok_lawStartState (hk := ?_)
    refine G.iffF (h2 := ?_)
    apply G.skip
    apply G.seq
    refine G.rg tab_ok ok_lawStartState (hk := ?_)
    apply G.seq
    apply G.seq
    refine G.rg tab_ok ok_lawStartState (hk := ?_)
    refine G.fg [6, 8, 60] (hk := ?_)
    refine G.iffF (h2 := ?_)
    apply G.skip
    apply G.seq
    refine G.rg tab_ok ok_lawStartState (hk := ?_)
    apply G.seq
    refine G.rg tab_ok ok_lawStartState (hk := ?_)
    apply G.seq
    apply G.seq
    refine G.rg tab_ok ok_lawStartState (hk := ?_)
    refine G.iffF (h2 := ?_)
    apply G.skip
    apply G.seq
    apply G.seq
    refine G.rg tab_ok ok_lawStartState (hk := ?_)
    refine G.fg [68] (hk := ?_)
    refine G.iffF (h2 := ?_)
    apply G.skip
    apply G.seq
    refine G.rg tab_ok ok_lawStartState (hk := ?_)
    refine G.fin tab_ok (hr := ?_)
    rfl

end Go.Proofs.Yticgaflgbljhlaa.Ab
