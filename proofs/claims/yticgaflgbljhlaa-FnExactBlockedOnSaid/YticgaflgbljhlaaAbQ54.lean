/- Walks of functions of the program: what each answers, for all arguments that meet its conditions. -/
import Derived.Test.YticgaflgbljhlaaFwGk
import Derived.Test.YticgaflgbljhlaaFwGe
import Derived.Test.YticgaflgbljhlaaFwGi
import Derived.Test.YticgaflgbljhlaaFwGh
import Derived.Test.YticgaflgbljhlaaFwGc
namespace Go.Proofs.Yticgaflgbljhlaa.Ab
open Go
set_option linter.unusedVariables false
set_option linter.unusedSimpArgs false
set_option maxHeartbeats 4000000
theorem ok_lawBlockedOn : Kn.ok Try.prog (kof [(15, q_szNetwork), (16, q_szState), (18, q_toNetwork), (19, q_toState), (42, q_specBlockedOn), (43, q_implBlockedOn), (21, q_eqNetwork), (22, q_eqState), (31, q_eqIntS), (44, q_heldIntS)]) := kof_cons k_szNetwork (kof_cons k_szState (kof_cons k_toNetwork (kof_cons k_toState (kof_cons k_specBlockedOn (kof_cons k_implBlockedOn (kof_cons k_eqNetwork (kof_cons k_eqState (kof_cons k_eqIntS (kof_cons k_heldIntS ((kof_nil _)))))))))))
theorem en_markNetwork : Enters Try.prog 25 := enters_of Try.func25 rfl rfl
theorem en_markState : Enters Try.prog 26 := enters_of Try.func26 rfl rfl
theorem heldI_mkB (n : Int) (k : Nat) : heldI n (mkI n k) = n + k := by unfold heldI; rw [mkI_len, if_pos rfl]
theorem lawBlockedOn_ac (ps : List PG) (ks : List LK) (xs : List AT) (qs : List (List Int)) (hs : List (List Int)) (t : Int) (hc1 : NW ps) (hc2 : KW ks) (hc3 : ps.length < 3518437208781) (hc4 : ks.length < 2513169434844) (hc5 : XW xs) (hc6 : xs.length < 4398046511104) (hc7 : qs.length < 5864062014805) (hc8 : LW qs) (hc9 : hs.length < 5864062014805) (hc10 : LW hs) : AC Try.prog 10 [.agg [.row false 3 (ps.map pv), .row false 5 (ks.map kv)], .agg [.row false 2 (xs.map av), .row false 1 (qs.map ivL), .row false 1 (hs.map ivL), .int .i64 t]] (.bool true) := by
  have e_szNetwork := e_szNetwork
  have e_szState := e_szState
  have e_toNetwork := e_toNetwork
  have e_toState := e_toState
  have e_specBlockedOn := e_specBlockedOn
  have e_implBlockedOn := e_implBlockedOn
  have e_eqNetwork := e_eqNetwork
  have e_eqState := e_eqState
  have e_eqIntS := e_eqIntS
  have e_heldIntS := e_heldIntS
  have hivl := ivL_eq
  have hro := roLL_ovL
  have hpov := pureLL_ovL
  have hnov := noLoanLL_ovL
  have hsz : szNet 1048576 ps ks ≤ 1048576 := szNet_le (by omega)
  have hol := blkO_len ps ks xs qs hs t
  obtain ⟨O, hO⟩ : ∃ x, blkO ps ks xs qs hs t = x := ⟨_, rfl⟩
  rw [hO] at hol
  have h5 : O.length < 17592186044416 := by omega
  have h6 : O.length < 1099511627776 := by omega
  have hmk := mkI_len
  have hhm := heldI_mkB
  have htk : List.take O.length (List.map iv (mkI 1 O.length)) = List.map iv (mkI 1 O.length) := List.take_of_length_le (by simp [mkI_len])
  have hn2 : ¬ (1 + (O.length : Int) < 0) := by omega
  refine AC.of tab_ok Try.func10 rfl (Nat.le_of_ble_eq_true rfl) fun w0 S0 => ?_
  change G _ _ ⟨[(0, .agg [.row false 3 (ps.map pv), .row false 5 (ks.map kv)]), (1, .agg [.row false 2 (xs.map av), .row false 1 (qs.map ivL), .row false 1 (hs.map ivL), .int .i64 t])], [], 92⟩
  apply G.seq
  refine G.rg tab_ok ok_lawBlockedOn (hk := ?_)
  apply G.seq
  refine G.rg tab_ok ok_lawBlockedOn (hk := ?_)
  apply G.seq
  refine G.rg tab_ok ok_lawBlockedOn (hk := ?_)
  apply G.seq
  apply G.seq
  refine G.rg tab_ok ok_lawBlockedOn (hk := ?_)
  refine G.fg [2, 3, 5, 18, 24, 25, 26, 27, 28, 40, 41, 42, 43, 45, 46, 47, 48, 75, 76, 77, 78, 79] (hk := ?_)
  refine G.iff (h1 := fun h1 => ?_) (h2 := fun h1 => ?_)
  · try simp only [decide_eq_true_eq, decide_eq_false_iff_not, Bool.and_eq_true, Bool.and_eq_false_imp, Bool.or_eq_true, Bool.or_eq_false_iff, Bool.not_eq_true', Bool.not_eq_false', bne_iff_ne, beq_iff_eq, bne_eq_false_iff_eq, beq_eq_false_iff_ne, ne_eq, Int.ofNat_lt, Int.not_lt, Int.not_le, Int.ofNat_le, Nat.not_lt, Nat.not_le, gt_iff_lt, ge_iff_le] at h1
    apply G.seq
    refine G.rg tab_ok ok_lawBlockedOn (hk := ?_)
    refine G.fin tab_ok (hr := ?_)
    rfl
  · try simp only [decide_eq_true_eq, decide_eq_false_iff_not, Bool.and_eq_true, Bool.and_eq_false_imp, Bool.or_eq_true, Bool.or_eq_false_iff, Bool.not_eq_true', Bool.not_eq_false', bne_iff_ne, beq_iff_eq, bne_eq_false_iff_eq, beq_eq_false_iff_ne, ne_eq, Int.ofNat_lt, Int.not_lt, Int.not_le, Int.ofNat_le, Nat.not_lt, Nat.not_le, gt_iff_lt, ge_iff_le] at h1
    apply G.skip
    apply G.seq
    refine G.rg tab_ok ok_lawBlockedOn (hk := ?_)
    apply G.seq
    apply G.seq
    refine G.rg tab_ok ok_lawBlockedOn (hk := ?_)
    refine G.iff (h1 := fun h2 => ?_) (h2 := fun h2 => ?_)
    · try simp only [decide_eq_true_eq, decide_eq_false_iff_not, Bool.and_eq_true, Bool.and_eq_false_imp, Bool.or_eq_true, Bool.or_eq_false_iff, Bool.not_eq_true', Bool.not_eq_false', bne_iff_ne, beq_iff_eq, bne_eq_false_iff_eq, beq_eq_false_iff_ne, ne_eq, Int.ofNat_lt, Int.not_lt, Int.not_le, Int.ofNat_le, Nat.not_lt, Nat.not_le, gt_iff_lt, ge_iff_le] at h2
      apply G.seq
      refine G.rg tab_ok ok_lawBlockedOn (hk := ?_)
      refine G.fin tab_ok (hr := ?_)
      rfl
    · try simp only [decide_eq_true_eq, decide_eq_false_iff_not, Bool.and_eq_true, Bool.and_eq_false_imp, Bool.or_eq_true, Bool.or_eq_false_iff, Bool.not_eq_true', Bool.not_eq_false', bne_iff_ne, beq_iff_eq, bne_eq_false_iff_eq, beq_eq_false_iff_ne, ne_eq, Int.ofNat_lt, Int.not_lt, Int.not_le, Int.ofNat_le, Nat.not_lt, Nat.not_le, gt_iff_lt, ge_iff_le] at h2
      apply G.skip
      apply G.seq
      have hszo := szNet_ok (n := 1048576) (ps := ps) (ks := ks) (by omega)
      have htp := tP_eq ps
      have htk0 := tK_eq ks
      have hps20 : ps.length ≤ 1048576 := by omega
      have hks20 : ks.length ≤ 1048576 := by omega
      have hpl : ps.length < 1099511627776 := by omega
      have hkl : ks.length < 1099511627776 := by omega
      have hbt : (1 : Int) + (tP ps : Int) + (tK ks : Int) ≤ 1048576000 := by omega
      have hn1 : ¬ ((1 : Int) + (tP ps : Int) + (tK ks : Int) < 0) := by omega
      have hsso := szSt_ok (n := szNet 1048576 ps ks) (xs := xs) (qs := qs) (hs := hs) (by omega)
      have hta := tA_eq xs
      have hx40 : xs.length < 1099511627776 := by omega
      have hq40 : qs.length < 1099511627776 := by omega
      have hh40 : hs.length < 1099511627776 := by omega
      have hqb2 : (1 : Int) + (tP ps : Int) + (tK ks : Int) + (tA xs : Int) + (tot qs : Int) + (tot hs : Int) ≤ 1048576000 := by omega
      have hn4 : ¬ ((1 : Int) + (tP ps : Int) + (tK ks : Int) + (tA xs : Int) + (tot qs : Int) + (tot hs : Int) < 0) := by omega
      clear hsso hta hszo htp htk0
      refine G.dr mixed tab_ok ok_lawBlockedOn [0, 2, 1, 3, 4, 5] (hk := ?_)
      apply G.seq
      refine G.rg tab_ok ok_lawBlockedOn (hk := ?_)
      apply G.seq
      refine G.rg tab_ok ok_lawBlockedOn (hk := ?_)
      apply G.seq
      refine G.rg tab_ok ok_lawBlockedOn (hk := ?_)
      apply G.seq
      apply G.seq
      refine G.rg tab_ok ok_lawBlockedOn (hk := ?_)
      refine G.fg [2, 3, 6, 7, 8, 9, 39, 40, 41, 42, 43, 45, 46, 47, 48, 75, 76, 77, 78, 79] (hk := ?_)
      refine G.iffF (h2 := ?_)
      apply G.skip
      apply G.seq
      apply G.seq
      refine G.dr mixed tab_ok ok_lawBlockedOn [0, 1, 2, 3, 4] (hk := ?_)
      refine G.iffF (h2 := ?_)
      apply G.skip
      apply G.seq
      apply G.seq
      refine G.dr mixed tab_ok ok_lawBlockedOn [0, 1, 2, 3, 4] (hk := ?_)
      refine G.fg [2, 3, 6, 7, 8, 9, 49, 75, 76, 77, 78, 79] (hk := ?_)
      refine G.iffF (h2 := ?_)
      apply G.skip
      apply G.seq
      refine G.rg tab_ok ok_lawBlockedOn (hk := ?_)
      apply G.seq
      refine G.rgN 2 tab_ok ok_lawBlockedOn (hk := ?_)
      refine G.cf [8, 9] en_markNetwork (markNetwork_mc _ ps ks 1 rfl (by omega) hbt hpl hkl) (h := ?_)
      refine G.rgC tab_ok ok_lawBlockedOn (hk := ?_)
      apply G.seq
      refine G.rgN 2 tab_ok ok_lawBlockedOn (hk := ?_)
      refine G.cf [11, 12, 13] en_markState (markState_mc _ xs qs hs t (1 + (tP ps : Int) + (tK ks : Int)) rfl (by omega) hqb2 hx40 hq40 hh40) (h := ?_)
      refine G.rgC tab_ok ok_lawBlockedOn (hk := ?_)
      apply G.seq
      apply G.seq
      refine G.rg tab_ok ok_lawBlockedOn (hk := ?_)
      refine G.fg [2, 3, 6, 9, 63, 75, 76, 77, 78, 79] (hk := ?_)
      refine G.iffF (h2 := ?_)
      apply G.skip
      apply G.seq
      refine G.rg tab_ok ok_lawBlockedOn (hk := ?_)
      apply G.seq
      refine G.rgN 2 tab_ok ok_lawBlockedOn (hk := ?_)
      refine G.cf [15] en_markIntS (markIntS_mc [some (1, O.map iv)] 0 O 1 rfl (by omega) (by omega) h6) (h := ?_)
      refine G.rgC tab_ok ok_lawBlockedOn (hk := ?_)
      apply G.seq
      refine G.rg tab_ok ok_lawBlockedOn (hk := ?_)
      apply G.seq
      refine G.rg tab_ok ok_lawBlockedOn (hk := ?_)
      apply G.seq
      apply G.seq
      refine G.rg tab_ok ok_lawBlockedOn (hk := ?_)
      refine G.fg [2, 3, 6, 9, 11, 12, 71, 75, 76, 77, 78, 79] (hk := ?_)
      refine G.iffF (h2 := ?_)
      apply G.skip
      apply G.seq
      apply G.seq
      refine G.rg tab_ok ok_lawBlockedOn (hk := ?_)
      refine G.iffF (h2 := ?_)
      apply G.skip
      apply G.seq
      refine G.dr mixed tab_ok ok_lawBlockedOn [0, 2, 1, 3, 4, 5] (hk := ?_)
      apply G.seq
      apply G.seq
      refine G.rg tab_ok ok_lawBlockedOn (hk := ?_)
      refine G.fg [9, 11, 83] (hk := ?_)
      refine G.iffF (h2 := ?_)
      apply G.skip
      apply G.seq
      refine G.rg tab_ok ok_lawBlockedOn (hk := ?_)
      apply G.seq
      refine G.rg tab_ok ok_lawBlockedOn (hk := ?_)
      apply G.seq
      apply G.seq
      refine G.rg tab_ok ok_lawBlockedOn (hk := ?_)
      refine G.iffF (h2 := ?_)
      apply G.skip
      apply G.seq
      apply G.seq
      refine G.rg tab_ok ok_lawBlockedOn (hk := ?_)
      refine G.fg [91] (hk := ?_)
      refine G.iffF (h2 := ?_)
      apply G.skip
      apply G.seq
      refine G.rg tab_ok ok_lawBlockedOn (hk := ?_)
      refine G.fin tab_ok (hr := ?_)
      rfl
end Go.Proofs.Yticgaflgbljhlaa.Ab
