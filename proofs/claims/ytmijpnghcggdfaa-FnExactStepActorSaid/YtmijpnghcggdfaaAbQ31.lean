/- Walks of functions of the program: what each answers, for all arguments that meet its conditions. -/
import Derived.Test.YtmijpnghcggdfaaAbP34
import Derived.Test.YtmijpnghcggdfaaAbP35
import Derived.Test.YtmijpnghcggdfaaAbP10
namespace Go.Proofs.Ytmijpnghcggdfaa.Ab
open Go
set_option linter.unusedVariables false
set_option linter.unusedSimpArgs false
set_option maxHeartbeats 4000000

theorem ok_lawStepActor : Kn.ok Try.prog (kof [(41, q_szProgram), (42, q_szActor), (44, q_toProgram), (45, q_toActor), (43, q_specStepActor), (25, q_implStepActor), (46, q_eqActor), (20, q_eqProgram), (48, q_heldActor)]) := kof_cons k_szProgram (kof_cons k_szActor (kof_cons k_toProgram (kof_cons k_toActor (kof_cons k_specStepActor (kof_cons k_implStepActor (kof_cons k_eqActor (kof_cons k_eqProgram (kof_cons k_heldActor ((kof_nil _))))))))))
theorem heldI_mk (n : Int) (k : Nat) : heldI n (mkI n k) = n + k := by unfold heldI; rw [mkI_len, if_pos rfl]
theorem en_markProgram : Enters Try.prog 21 := enters_of Try.func21 rfl rfl
theorem en_markActor : Enters Try.prog 47 := enters_of Try.func47 rfl rfl
theorem lawStepActor_ac (i : Int) (o : Int) (l : List I4) (pc : Int) (rs : List Int) (token : Int) (hc1 : l.length < 4398046511104) (hc2 : rs.length < 17592186044416) : AC Try.prog 10 [.agg [.int .i64 i, .int .i64 o, .row false 4 (l.map insv)], .agg [.int .i64 pc, .row false 1 (rs.map iv)], .int .i64 token] (.bool true) := by
  have e_szProgram := e_szProgram
  have e_szActor := e_szActor
  have e_toProgram := e_toProgram
  have e_toActor := e_toActor
  have e_specStepActor := e_specStepActor
  have e_implStepActor := e_implStepActor
  have e_eqActor := e_eqActor
  have e_eqProgram := e_eqProgram
  have e_heldActor := e_heldActor
  have h4 := stepO_len i o l pc rs token
  have h5 : (stepO i o l pc rs token).1.2.length < 17592186044416 := by omega
  have h6 : (stepO i o l pc rs token).1.2.length < 1099511627776 := by omega
  have hmk := mkI_len
  have hhm := heldI_mk
  have htk : List.take (stepO i o l pc rs token).1.2.length (List.map iv (mkI 1 (stepO i o l pc rs token).1.2.length)) = List.map iv (mkI 1 (stepO i o l pc rs token).1.2.length) := List.take_of_length_le (by simp [mkI_len])
  have hn2 : ¬ (1 + ((stepO i o l pc rs token).1.2.length : Int) < 0) := by omega
  refine AC.of tab_ok Try.func10 rfl (Nat.le_of_ble_eq_true rfl) fun w0 S0 => ?_
  change G _ _ ⟨[(0, .agg [.int .i64 i, .int .i64 o, .row false 4 (l.map insv)]), (1, .agg [.int .i64 pc, .row false 1 (rs.map iv)]), (2, .int .i64 token)], [], 145⟩
  apply G.seq
  refine G.rg tab_ok ok_lawStepActor (hk := ?_)
  apply G.seq
  refine G.rg tab_ok ok_lawStepActor (hk := ?_)
  apply G.seq
  refine G.rg tab_ok ok_lawStepActor (hk := ?_)
  apply G.seq
  apply G.seq
  refine G.rg tab_ok ok_lawStepActor (hk := ?_)
  refine G.fg [2, 3, 4, 7, 8, 19, 26, 32, 33, 34, 35, 36, 37, 38, 39, 40, 41, 59, 60, 61, 64, 65, 66, 68, 69, 70, 71, 73, 74, 75, 76, 87, 88, 89, 90, 93, 94, 95, 98, 99, 100, 113, 114, 115, 116, 117, 118, 119, 120, 121, 122, 128, 129, 130, 133, 134, 135] (hk := ?_)
  refine G.iff (h1 := fun h1 => ?_) (h2 := fun h1 => ?_)
  · try simp only [decide_eq_true_eq, decide_eq_false_iff_not, Bool.and_eq_true, Bool.and_eq_false_imp, Bool.or_eq_true, Bool.or_eq_false_iff, Bool.not_eq_true', Bool.not_eq_false', bne_iff_ne, beq_iff_eq, bne_eq_false_iff_eq, beq_eq_false_iff_ne, ne_eq, Int.ofNat_lt, Int.not_lt, Int.not_le, Int.ofNat_le, Nat.not_lt, Nat.not_le, gt_iff_lt, ge_iff_le] at h1
    have hsz : (if 1048576 - (l.length : Int) < 0 then -1 else 1048576 - (l.length : Int)) ≤ 1048576 := by split <;> omega
    apply G.seq
    refine G.rg tab_ok ok_lawStepActor (hk := ?_)
    refine G.fin tab_ok (hr := ?_)
    rfl
  · try simp only [decide_eq_true_eq, decide_eq_false_iff_not, Bool.and_eq_true, Bool.and_eq_false_imp, Bool.or_eq_true, Bool.or_eq_false_iff, Bool.not_eq_true', Bool.not_eq_false', bne_iff_ne, beq_iff_eq, bne_eq_false_iff_eq, beq_eq_false_iff_ne, ne_eq, Int.ofNat_lt, Int.not_lt, Int.not_le, Int.ofNat_le, Nat.not_lt, Nat.not_le, gt_iff_lt, ge_iff_le] at h1
    have hsz : (if 1048576 - (l.length : Int) < 0 then -1 else 1048576 - (l.length : Int)) ≤ 1048576 := by split <;> omega
    apply G.skip
    apply G.seq
    refine G.rg tab_ok ok_lawStepActor (hk := ?_)
    apply G.seq
    apply G.seq
    refine G.rg tab_ok ok_lawStepActor (hk := ?_)
    refine G.iff (h1 := fun h2 => ?_) (h2 := fun h2 => ?_)
    · try simp only [decide_eq_true_eq, decide_eq_false_iff_not, Bool.and_eq_true, Bool.and_eq_false_imp, Bool.or_eq_true, Bool.or_eq_false_iff, Bool.not_eq_true', Bool.not_eq_false', bne_iff_ne, beq_iff_eq, bne_eq_false_iff_eq, beq_eq_false_iff_ne, ne_eq, Int.ofNat_lt, Int.not_lt, Int.not_le, Int.ofNat_le, Nat.not_lt, Nat.not_le, gt_iff_lt, ge_iff_le] at h2
      apply G.seq
      refine G.rg tab_ok ok_lawStepActor (hk := ?_)
      refine G.fin tab_ok (hr := ?_)
      rfl
    · try simp only [decide_eq_true_eq, decide_eq_false_iff_not, Bool.and_eq_true, Bool.and_eq_false_imp, Bool.or_eq_true, Bool.or_eq_false_iff, Bool.not_eq_true', Bool.not_eq_false', bne_iff_ne, beq_iff_eq, bne_eq_false_iff_eq, beq_eq_false_iff_ne, ne_eq, Int.ofNat_lt, Int.not_lt, Int.not_le, Int.ofNat_le, Nat.not_lt, Nat.not_le, gt_iff_lt, ge_iff_le] at h2
      apply G.skip
      apply G.seq
      have hl20 : l.length ≤ 1048576 := by split at h1 <;> omega
      have hr20 : rs.length ≤ 1048576 := by split at h2 <;> omega
      have hl40 : l.length < 1099511627776 := by omega
      have hr40 : rs.length < 1099511627776 := by omega
      have hn1 : ¬ (1 + 4 * (l.length : Int) + (rs.length : Int) < 0) := by omega
      apply G.joinR
      · intro hk
        refine G.drawL (c := ⟨Try.prog, tab, _, _, _, _, _⟩) mixed tab_ok ok_lawStepActor 14 ?_ rfl
        refine AnyL.gg (n := 11) 3 [0, 2, 4] (h := ?_)
        refine AnyL.fk2 (n := 10) 1 10 (k1 := ?_) (k2 := ?_)
        · skip
          refine AnyL.fk2 (n := 9) 3 10 (k1 := ?_) (k2 := ?_)
          · skip
            refine AnyL.fk2 (n := 8) 5 10 (k1 := ?_) (k2 := ?_)
            · skip
              refine AnyL.gg (n := 0) 8 [6, 7, 8, 9, 10, 11, 12, 13] (h := ?_)
              exact AnyL.ln [2, 3, 4, 8, 9, 10, 19, 59, 60, 61, 64, 65, 66, 68, 69, 70, 71, 73, 74, 75, 76, 87, 88, 89, 90, 93, 94, 95, 98, 99, 100, 113, 114, 115, 116, 117, 118, 119, 120, 121, 122, 128, 129, 130, 133, 134, 135] (h := hk)
            · skip
              refine AnyL.gg (n := 0) 8 [5, 6, 7, 8, 9, 11, 12, 13] (h := ?_)
              exact AnyL.ln [2, 3, 4, 8, 9, 10, 19, 59, 60, 61, 64, 65, 66, 68, 69, 70, 71, 73, 74, 75, 76, 87, 88, 89, 90, 93, 94, 95, 98, 99, 100, 113, 114, 115, 116, 117, 118, 119, 120, 121, 122, 128, 129, 130, 133, 134, 135] (h := hk)
          · skip
            refine AnyL.gg (n := 0) 9 [3, 5, 6, 7, 8, 9, 11, 12, 13] (h := ?_)
            exact AnyL.ln [2, 3, 4, 8, 9, 10, 19, 59, 60, 61, 64, 65, 66, 68, 69, 70, 71, 73, 74, 75, 76, 87, 88, 89, 90, 93, 94, 95, 98, 99, 100, 113, 114, 115, 116, 117, 118, 119, 120, 121, 122, 128, 129, 130, 133, 134, 135] (h := hk)
        · skip
          refine AnyL.gg (n := 0) 10 [1, 3, 5, 6, 7, 8, 9, 11, 12, 13] (h := ?_)
          exact AnyL.ln [2, 3, 4, 8, 9, 10, 19, 59, 60, 61, 64, 65, 66, 68, 69, 70, 71, 73, 74, 75, 76, 87, 88, 89, 90, 93, 94, 95, 98, 99, 100, 113, 114, 115, 116, 117, 118, 119, 120, 121, 122, 128, 129, 130, 133, 134, 135] (h := hk)
      apply G.seq
      refine G.rg tab_ok ok_lawStepActor (hk := ?_)
      apply G.seq
      refine G.rg tab_ok ok_lawStepActor (hk := ?_)
      apply G.seq
      refine G.rg tab_ok ok_lawStepActor (hk := ?_)
      apply G.seq
      apply G.seq
      refine G.rg tab_ok ok_lawStepActor (hk := ?_)
      refine G.fg [2, 3, 4, 8, 9, 10, 11, 12, 13, 14, 15, 19, 67, 68, 69, 70, 71, 73, 74, 75, 76, 87, 88, 89, 90, 93, 94, 95, 98, 99, 100, 113, 114, 115, 116, 117, 118, 119, 120, 121, 122, 128, 129, 130, 133, 134, 135] (hk := ?_)
      refine G.iffF (h2 := ?_)
      apply G.skip
      apply G.seq
      apply G.seq
      refine G.dr mixed tab_ok ok_lawStepActor [0, 1, 2, 3, 4] (hk := ?_)
      refine G.iffF (h2 := ?_)
      apply G.skip
      apply G.seq
      apply G.seq
      refine G.dr mixed tab_ok ok_lawStepActor [0, 1, 2, 3, 4] (hk := ?_)
      refine G.fg [2, 3, 4, 8, 9, 10, 11, 12, 13, 14, 15, 19, 77, 87, 88, 89, 90, 93, 94, 95, 98, 99, 100, 113, 114, 115, 116, 117, 118, 119, 120, 121, 122, 128, 129, 130, 133, 134, 135] (hk := ?_)
      refine G.iffF (h2 := ?_)
      apply G.skip
      apply G.seq
      refine G.rg tab_ok ok_lawStepActor (hk := ?_)
      apply G.seq
      refine G.rgN 2 tab_ok ok_lawStepActor (hk := ?_)
      refine G.cf [4] en_markProgram (markProgram_mc [some (4, l.map insv)] 0 i o l 1 rfl (by omega) (by omega) hl40) (h := ?_)
      refine G.rgC tab_ok ok_lawStepActor (hk := ?_)
      apply G.seq
      refine G.rgN 2 tab_ok ok_lawStepActor (hk := ?_)
      refine G.cf [6] en_markActor (markActor_mc [some (1, rs.map iv)] 0 pc rs (1 + 4 * l.length) rfl (by omega) (by omega) hr40) (h := ?_)
      refine G.rgC tab_ok ok_lawStepActor (hk := ?_)
      apply G.seq
      apply G.seq
      refine G.rg tab_ok ok_lawStepActor (hk := ?_)
      refine G.fg [2, 3, 4, 8, 9, 10, 13, 19, 101, 113, 114, 115, 116, 117, 118, 119, 120, 121, 122, 128, 129, 130, 133, 134, 135] (hk := ?_)
      refine G.iffF (h2 := ?_)
      apply G.skip
      apply G.seq
      refine G.rg tab_ok ok_lawStepActor (hk := ?_)
      apply G.seq
      refine G.rgN 2 tab_ok ok_lawStepActor (hk := ?_)
      refine G.cf [8] en_markActor (markActor_mc [some (1, (stepO i o l pc rs token).1.2.map iv)] 0 (stepO i o l pc rs token).1.1 (stepO i o l pc rs token).1.2 1 rfl (by omega) (by omega) h6) (h := ?_)
      refine G.rgC tab_ok ok_lawStepActor (hk := ?_)
      apply G.seq
      refine G.rg tab_ok ok_lawStepActor (hk := ?_)
      apply G.seq
      refine G.rg tab_ok ok_lawStepActor (hk := ?_)
      apply G.seq
      apply G.seq
      refine G.rg tab_ok ok_lawStepActor (hk := ?_)
      refine G.fg [2, 3, 4, 8, 9, 10, 13, 17, 18, 19, 109, 113, 114, 115, 116, 117, 118, 119, 120, 121, 122, 128, 129, 130, 133, 134, 135] (hk := ?_)
      refine G.iffF (h2 := ?_)
      apply G.skip
      apply G.seq
      apply G.seq
      refine G.rg tab_ok ok_lawStepActor (hk := ?_)
      refine G.iffF (h2 := ?_)
      apply G.skip
      apply G.seq
      apply G.joinR
      · intro hk
        refine G.drawL (c := ⟨Try.prog, tab, _, _, _, _, _⟩) mixed tab_ok ok_lawStepActor 14 ?_ rfl
        refine AnyL.gg (n := 11) 3 [0, 2, 4] (h := ?_)
        refine AnyL.fk2 (n := 10) 1 10 (k1 := ?_) (k2 := ?_)
        · skip
          refine AnyL.fk2 (n := 9) 3 10 (k1 := ?_) (k2 := ?_)
          · skip
            refine AnyL.fk2 (n := 8) 5 10 (k1 := ?_) (k2 := ?_)
            · skip
              refine AnyL.gg (n := 0) 8 [6, 7, 8, 9, 10, 11, 12, 13] (h := ?_)
              exact AnyL.ln [8, 9, 10, 13, 17, 19, 20, 21, 128, 129, 130, 133, 134, 135] (h := hk)
            · skip
              refine AnyL.gg (n := 0) 8 [5, 6, 7, 8, 9, 11, 12, 13] (h := ?_)
              exact AnyL.ln [8, 9, 10, 13, 17, 19, 20, 21, 128, 129, 130, 133, 134, 135] (h := hk)
          · skip
            refine AnyL.gg (n := 0) 9 [3, 5, 6, 7, 8, 9, 11, 12, 13] (h := ?_)
            exact AnyL.ln [8, 9, 10, 13, 17, 19, 20, 21, 128, 129, 130, 133, 134, 135] (h := hk)
        · skip
          refine AnyL.gg (n := 0) 10 [1, 3, 5, 6, 7, 8, 9, 11, 12, 13] (h := ?_)
          exact AnyL.ln [8, 9, 10, 13, 17, 19, 20, 21, 128, 129, 130, 133, 134, 135] (h := hk)
      apply G.seq
      apply G.seq
      refine G.rg tab_ok ok_lawStepActor (hk := ?_)
      refine G.fg [13, 17, 136] (hk := ?_)
      refine G.iffF (h2 := ?_)
      apply G.skip
      apply G.seq
      refine G.rg tab_ok ok_lawStepActor (hk := ?_)
      apply G.seq
      refine G.rg tab_ok ok_lawStepActor (hk := ?_)
      apply G.seq
      apply G.seq
      refine G.rg tab_ok ok_lawStepActor (hk := ?_)
      refine G.iffF (h2 := ?_)
      apply G.skip
      apply G.seq
      apply G.seq
      refine G.rg tab_ok ok_lawStepActor (hk := ?_)
      refine G.fg [144] (hk := ?_)
      refine G.iffF (h2 := ?_)
      apply G.skip
      apply G.seq
      refine G.rg tab_ok ok_lawStepActor (hk := ?_)
      refine G.fin tab_ok (hr := ?_)
      rfl

end Go.Proofs.Ytmijpnghcggdfaa.Ab
