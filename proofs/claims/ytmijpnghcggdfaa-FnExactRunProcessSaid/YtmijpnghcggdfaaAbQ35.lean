/- Walks of functions of the program: what each answers, for all arguments that meet its conditions. -/
import Derived.Test.YtmijpnghcggdfaaAbP43
import Derived.Test.YtmijpnghcggdfaaAbP44
import Derived.Test.YtmijpnghcggdfaaAbP50
import Derived.Test.YtmijpnghcggdfaaAbP10
namespace Go.Proofs.Ytmijpnghcggdfaa.Ab
open Go
set_option linter.unusedVariables false
set_option linter.unusedSimpArgs false
set_option maxHeartbeats 4000000

theorem ok_lawRunProcess : Kn.ok Try.prog (kof [(41, q_szProgram), (49, q_szIntSS), (44, q_toProgram), (51, q_toIntSS), (50, q_specRunProcess), (35, q_implRunProcess), (52, q_eqIntSS), (15, q_eqIntS), (20, q_eqProgram), (54, q_heldIntSS), (17, q_heldIntS)]) := kof_cons k_szProgram (kof_cons k_szIntSS (kof_cons k_toProgram (kof_cons k_toIntSS (kof_cons k_specRunProcess (kof_cons k_implRunProcess (kof_cons k_eqIntSS (kof_cons k_eqIntS (kof_cons k_eqProgram (kof_cons k_heldIntSS (kof_cons k_heldIntS ((kof_nil _))))))))))))
theorem goP_ok {i o : Int} {l : List I4} {ins : List (List Int)} (hp : progOk i o l = true) (hi : IW i ins) : ∀ (n : Nat) (s : PS), PW i o l ins s → PW i o l ins (goP l ins n s).1
  | 0, s, h => by unfold goP; split <;> exact h
  | n + 1, s, h => by
    unfold goP
    split
    · exact h
    · rename_i hs
      exact goP_ok hp hi n _ (h.next hp hi (by simpa using hs))
theorem tot_bound {rs : List (List Int)} (h : ∀ r ∈ rs, r.length ≤ 400) : tot rs ≤ 400 * rs.length := by
  induction rs with
  | nil => simp [tot_nil]
  | cons r rs ih =>
    rw [tot_cons, List.length_cons]
    have := h r (by simp)
    have := ih (fun x hx => h x (by simp [hx]))
    omega
theorem runO_ok (i o : Int) (l : List I4) (ins : List (List Int)) (fuel : Int) : (runO i o l ins fuel).1.length ≤ 3 ∧ (runO i o l ins fuel).2.1.length ≤ 3 ∧ ∀ r ∈ (runO i o l ins fuel).1, r.length ≤ 400 := by
  unfold runO
  split
  · simp
  · rename_i h
    obtain ⟨g1, g2, g3, g4, g5⟩ := runBad_false (by simpa using h)
    have hw := goP_ok g1 g2 fuel.toNat _ (PW.init g1 g2)
    have hpo := g1
    simp only [progOk, inR, Bool.and_eq_true, decide_eq_true_eq] at hpo
    have h1 := hw.ol
    have h2 := hw.ul
    exact ⟨by simp only; omega, by simp only; omega, hw.ob⟩
theorem tot_mkSS (n : Int) (rs : List (List Int)) : tot (mkSS n rs) = tot rs := by
  induction rs generalizing n with
  | nil => rfl
  | cons r rs ih => simp only [mkSS, tot_cons, mkI_len, ih]
theorem LW_of {rs : List (List Int)} (h : ∀ r ∈ rs, r.length ≤ 400) : LW rs := fun r hr => by have := h r hr; omega
theorem mkSS_rows (n : Int) {rs : List (List Int)} (h : ∀ r ∈ rs, r.length ≤ 400) : ∀ r ∈ mkSS n rs, r.length ≤ 400 := by
  induction rs generalizing n with
  | nil => simp [mkSS]
  | cons r rs ih =>
    intro x hx
    simp only [mkSS, List.mem_cons] at hx
    rcases hx with rfl | hx
    · rw [mkI_len]; exact h r (by simp)
    · exact ih _ (fun y hy => h y (by simp [hy])) x hx
theorem en_markProgram : Enters Try.prog 21 := enters_of Try.func21 rfl rfl
theorem en_markIntSS : Enters Try.prog 53 := enters_of Try.func53 rfl rfl
theorem lawRunProcess_ac (i : Int) (o : Int) (l : List I4) (ins : List (List Int)) (fuel : Int) (hc1 : l.length < 4398046511104) (hc2 : ins.length < 5864062014805) (hc3 : LW ins) : AC Try.prog 11 [.agg [.int .i64 i, .int .i64 o, .row false 4 (l.map insv)], .row false 1 (ins.map ivL), .int .i64 fuel] (.bool true) := by
  have e_szProgram := e_szProgram
  have e_szIntSS := e_szIntSS
  have e_toProgram := e_toProgram
  have e_toIntSS := e_toIntSS
  have e_specRunProcess := e_specRunProcess
  have e_implRunProcess := e_implRunProcess
  have e_eqIntSS := e_eqIntSS
  have e_eqIntS := e_eqIntS
  have e_eqProgram := e_eqProgram
  have e_heldIntSS := e_heldIntSS
  have e_heldIntS := e_heldIntS
  obtain ⟨b1, b2, b3⟩ := runO_ok i o l ins fuel
  generalize hO : runO i o l ins fuel = O at b1 b2 b3
  have hbt := tot_bound b3
  have hLW := LW_of b3
  have hLM := LW_of (mkSS_rows 1 b3)
  have hro := roLL_ovL
  have hpov := pureLL_ovL
  have hnov := noLoanLL_ovL
  have h4 : O.1.length < 5864062014805 := by omega
  have h5 : O.2.1.length < 17592186044416 := by omega
  have h6 : O.2.1.length < 1099511627776 := by omega
  have h7 : O.1.length < 1099511627776 := by omega
  have hmk := mkI_len
  have hhm := heldI_mk'
  have hh1 : heldSS 1 (mkSS 1 O.1) = 1 + (tot O.1 : Int) := heldSS_mk 1 (by omega) O.1
  have htm : (1 : Int) + (tot (mkSS 1 O.1) : Int) ≤ 1048576000 := by rw [tot_mkSS]; omega
  have hml : (mkSS 1 O.1).length < 1099511627776 := by rw [mkSS_len]; omega
  have hml2 : O.1.length ≤ (mkSS 1 O.1).length := by rw [mkSS_len]; exact Nat.le_refl _
  have htk1 : List.take O.1.length (List.map ovL (mkSS 1 O.1)) = List.map ovL (mkSS 1 O.1) := List.take_of_length_le (by simp [mkSS_len])
  have htk2 : ∀ n : Int, List.take O.2.1.length (List.map iv (mkI n O.2.1.length)) = List.map iv (mkI n O.2.1.length) := fun n => List.take_of_length_le (by simp [mkI_len])
  have hq1 : (0 : Int) ≤ 1 + (tot O.1 : Int) := by omega
  have hq2 : (1 : Int) + (tot O.1 : Int) ≤ 1099511627776 := by omega
  have hn2 : ¬ (1 + (tot O.1 : Int) < 0) := by omega
  have hn3 : ¬ (1 + (tot O.1 : Int) + (O.2.1.length : Int) < 0) := by omega
  refine AC.of tab_ok Try.func11 rfl (Nat.le_of_ble_eq_true rfl) fun w0 S0 => ?_
  change G _ _ ⟨[(0, .agg [.int .i64 i, .int .i64 o, .row false 4 (l.map insv)]), (1, .row false 1 (ins.map ivL)), (2, .int .i64 fuel)], [], 182⟩
  apply G.seq
  refine G.rg tab_ok ok_lawRunProcess (hk := ?_)
  apply G.seq
  refine G.rg tab_ok ok_lawRunProcess (hk := ?_)
  apply G.seq
  refine G.rg tab_ok ok_lawRunProcess (hk := ?_)
  apply G.seq
  apply G.seq
  refine G.rg tab_ok ok_lawRunProcess (hk := ?_)
  refine G.fg [1, 2, 3, 7, 29, 64, 65, 66, 67, 70, 71, 72, 75, 76, 77, 79, 80, 81, 82, 98, 99, 100, 101, 104, 105, 106, 107, 110, 111, 112, 115, 116, 117, 154, 155, 156, 157, 160, 161, 162, 165, 166, 167] (hk := ?_)
  refine G.iff (h1 := fun h1 => ?_) (h2 := fun h1 => ?_)
  · try simp only [decide_eq_true_eq, decide_eq_false_iff_not, Bool.and_eq_true, Bool.and_eq_false_imp, Bool.or_eq_true, Bool.or_eq_false_iff, Bool.not_eq_true', Bool.not_eq_false', bne_iff_ne, beq_iff_eq, bne_eq_false_iff_eq, beq_eq_false_iff_ne, ne_eq, Int.ofNat_lt, Int.not_lt, Int.not_le, Int.ofNat_le, Nat.not_lt, Nat.not_le, gt_iff_lt, ge_iff_le] at h1
    have hsz : (if 1048576 - (l.length : Int) < 0 then -1 else 1048576 - (l.length : Int)) ≤ 1048576 := by split <;> omega
    apply G.seq
    refine G.rg tab_ok ok_lawRunProcess (hk := ?_)
    refine G.fin tab_ok (hr := ?_)
    rfl
  · try simp only [decide_eq_true_eq, decide_eq_false_iff_not, Bool.and_eq_true, Bool.and_eq_false_imp, Bool.or_eq_true, Bool.or_eq_false_iff, Bool.not_eq_true', Bool.not_eq_false', bne_iff_ne, beq_iff_eq, bne_eq_false_iff_eq, beq_eq_false_iff_ne, ne_eq, Int.ofNat_lt, Int.not_lt, Int.not_le, Int.ofNat_le, Nat.not_lt, Nat.not_le, gt_iff_lt, ge_iff_le] at h1
    have hsz : (if 1048576 - (l.length : Int) < 0 then -1 else 1048576 - (l.length : Int)) ≤ 1048576 := by split <;> omega
    apply G.skip
    apply G.seq
    refine G.rg tab_ok ok_lawRunProcess (hk := ?_)
    apply G.seq
    apply G.seq
    refine G.rg tab_ok ok_lawRunProcess (hk := ?_)
    refine G.iff (h1 := fun h2 => ?_) (h2 := fun h2 => ?_)
    · try simp only [decide_eq_true_eq, decide_eq_false_iff_not, Bool.and_eq_true, Bool.and_eq_false_imp, Bool.or_eq_true, Bool.or_eq_false_iff, Bool.not_eq_true', Bool.not_eq_false', bne_iff_ne, beq_iff_eq, bne_eq_false_iff_eq, beq_eq_false_iff_ne, ne_eq, Int.ofNat_lt, Int.not_lt, Int.not_le, Int.ofNat_le, Nat.not_lt, Nat.not_le, gt_iff_lt, ge_iff_le] at h2
      apply G.seq
      refine G.rg tab_ok ok_lawRunProcess (hk := ?_)
      refine G.fin tab_ok (hr := ?_)
      rfl
    · try simp only [decide_eq_true_eq, decide_eq_false_iff_not, Bool.and_eq_true, Bool.and_eq_false_imp, Bool.or_eq_true, Bool.or_eq_false_iff, Bool.not_eq_true', Bool.not_eq_false', bne_iff_ne, beq_iff_eq, bne_eq_false_iff_eq, beq_eq_false_iff_ne, ne_eq, Int.ofNat_lt, Int.not_lt, Int.not_le, Int.ofNat_le, Nat.not_lt, Nat.not_le, gt_iff_lt, ge_iff_le] at h2
      apply G.skip
      apply G.seq
      have hl20 : l.length ≤ 1048576 := by split at h1 <;> omega
      have hl40 : l.length < 1099511627776 := by omega
      have htb : (ins.length : Int) + (tot ins : Int) ≤ 1048576 := by
        unfold szSS at h2
        split at h2
        · omega
        · split at h1 <;> omega
      have hi40 : ins.length < 1099511627776 := by omega
      have hn1 : ¬ (1 + 4 * (l.length : Int) + (tot ins : Int) < 0) := by omega
      refine G.rg tab_ok ok_lawRunProcess (hk := ?_)
      apply G.seq
      refine G.rg tab_ok ok_lawRunProcess (hk := ?_)
      apply G.seq
      refine G.rg tab_ok ok_lawRunProcess (hk := ?_)
      apply G.seq
      refine G.rg tab_ok ok_lawRunProcess (hk := ?_)
      apply G.seq
      apply G.seq
      refine G.fg [1, 2, 3, 8, 9, 10, 11, 12, 13, 14, 15, 16, 17, 64, 65, 66, 67, 70, 71, 72, 75, 76, 77, 79, 80, 81, 82, 98, 99, 100, 101, 104, 105, 106, 107, 110, 111, 112, 115, 116, 117, 154, 155, 156, 157, 160, 161, 162, 165, 166, 167] (hk := ?_)
      refine G.rg tab_ok ok_lawRunProcess (hk := ?_)
      refine G.fg [1, 2, 3, 8, 9, 10, 11, 12, 13, 14, 15, 16, 17, 78, 79, 80, 81, 82, 98, 99, 100, 101, 104, 105, 106, 107, 110, 111, 112, 115, 116, 117, 154, 155, 156, 157, 160, 161, 162, 165, 166, 167] (hk := ?_)
      refine G.iffF (h2 := ?_)
      apply G.skip
      apply G.seq
      apply G.seq
      refine G.dr mixed tab_ok ok_lawRunProcess [0, 1, 2, 3, 4] (hk := ?_)
      refine G.iffF (h2 := ?_)
      apply G.skip
      apply G.seq
      apply G.seq
      refine G.rg tab_ok ok_lawRunProcess (hk := ?_)
      refine G.fg [1, 2, 3, 8, 9, 10, 11, 12, 13, 14, 15, 16, 17, 88, 98, 99, 100, 101, 104, 105, 106, 107, 110, 111, 112, 115, 116, 117, 154, 155, 156, 157, 160, 161, 162, 165, 166, 167] (hk := ?_)
      refine G.iffF (h2 := ?_)
      apply G.skip
      apply G.seq
      refine G.rg tab_ok ok_lawRunProcess (hk := ?_)
      apply G.seq
      refine G.rgN 2 tab_ok ok_lawRunProcess (hk := ?_)
      refine G.cf [5] en_markProgram (markProgram_mc [some (4, l.map insv)] 0 i o l 1 rfl (by omega) (by omega) hl40) (h := ?_)
      refine G.rgC tab_ok ok_lawRunProcess (hk := ?_)
      apply G.seq
      refine G.rgN 2 tab_ok ok_lawRunProcess (hk := ?_)
      refine G.cf [7] en_markIntSS (markIntSS_mc _ ins (1 + 4 * l.length) rfl (by omega) (by omega) hi40) (h := ?_)
      refine G.rgC tab_ok ok_lawRunProcess (hk := ?_)
      apply G.seq
      apply G.seq
      refine G.rg tab_ok ok_lawRunProcess (hk := ?_)
      refine G.fg [1, 2, 3, 8, 9, 10, 11, 14, 15, 118, 154, 155, 156, 157, 160, 161, 162, 165, 166, 167] (hk := ?_)
      refine G.iffF (h2 := ?_)
      apply G.skip
      apply G.seq
      refine G.rg tab_ok ok_lawRunProcess (hk := ?_)
      apply G.seq
      refine G.rgN 2 tab_ok ok_lawRunProcess (hk := ?_)
      refine G.cf [8] en_markIntSS (markIntSS_mc _ O.1 1 rfl (by omega) (by omega) h7) (h := ?_)
      refine G.rgC tab_ok ok_lawRunProcess (hk := ?_)
      apply G.seq
      refine G.rgN 2 tab_ok ok_lawRunProcess (hk := ?_)
      refine G.cf [9] en_markIntS (markIntS_mc [some (1, O.2.1.map iv)] 0 O.2.1 (1 + (tot O.1 : Int)) rfl (by omega) (by omega) h6) (h := ?_)
      refine G.rgC tab_ok ok_lawRunProcess (hk := ?_)
      apply G.seq
      refine G.rg tab_ok ok_lawRunProcess (hk := ?_)
      apply G.seq
      refine G.rg tab_ok ok_lawRunProcess (hk := ?_)
      apply G.seq
      apply G.seq
      refine G.rg tab_ok ok_lawRunProcess (hk := ?_)
      refine G.fg [1, 2, 3, 8, 9, 10, 11, 14, 15, 19, 20, 129, 154, 155, 156, 157, 160, 161, 162, 165, 166, 167] (hk := ?_)
      refine G.iffF (h2 := ?_)
      apply G.skip
      apply G.seq
      refine G.rg tab_ok ok_lawRunProcess (hk := ?_)
      apply G.seq
      apply G.seq
      refine G.rg tab_ok ok_lawRunProcess (hk := ?_)
      refine G.iffF (h2 := ?_)
      apply G.skip
      apply G.seq
      apply G.seq
      refine G.rg tab_ok ok_lawRunProcess (hk := ?_)
      refine G.fg [1, 2, 3, 8, 9, 10, 11, 14, 15, 19, 137, 154, 155, 156, 157, 160, 161, 162, 165, 166, 167] (hk := ?_)
      refine G.iffF (h2 := ?_)
      apply G.skip
      apply G.seq
      refine G.rg tab_ok ok_lawRunProcess (hk := ?_)
      apply G.seq
      apply G.seq
      refine G.rg tab_ok ok_lawRunProcess (hk := ?_)
      refine G.fg [14, 15, 19, 168] (hk := ?_)
      refine G.iffF (h2 := ?_)
      apply G.skip
      apply G.seq
      refine G.rg tab_ok ok_lawRunProcess (hk := ?_)
      apply G.seq
      refine G.rg tab_ok ok_lawRunProcess (hk := ?_)
      apply G.seq
      apply G.seq
      refine G.rg tab_ok ok_lawRunProcess (hk := ?_)
      refine G.iffF (h2 := ?_)
      apply G.skip
      apply G.seq
      refine G.rg tab_ok ok_lawRunProcess (hk := ?_)
      apply G.seq
      apply G.seq
      refine G.rg tab_ok ok_lawRunProcess (hk := ?_)
      refine G.fg [19, 20, 178] (hk := ?_)
      refine G.iffF (h2 := ?_)
      apply G.skip
      apply G.seq
      apply G.seq
      refine G.rg tab_ok ok_lawRunProcess (hk := ?_)
      refine G.iffF (h2 := ?_)
      apply G.skip
      apply G.seq
      refine G.rg tab_ok ok_lawRunProcess (hk := ?_)
      refine G.fin tab_ok (hr := ?_)
      rfl

end Go.Proofs.Ytmijpnghcggdfaa.Ab
