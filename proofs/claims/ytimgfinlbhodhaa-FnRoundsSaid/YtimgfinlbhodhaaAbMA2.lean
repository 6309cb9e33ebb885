/- Walks of functions of the program: what each answers, for all arguments that meet its conditions. -/
import Derived.Test.YtimgfinlbhodhaaAbMA1
import Derived.Test.YtimgfinlbhodhaaFwGj
import Derived.Test.YtimgfinlbhodhaaAbG5
import Derived.Test.YtimgfinlbhodhaaAbT1
import Derived.Test.YtimgfinlbhodhaaAbAutoI
namespace Go.Proofs.Ytimgfinlbhodhaa.Ab
open Go
set_option linter.unusedVariables false
set_option linter.unusedSimpArgs false
set_option maxHeartbeats 4000000
theorem ok_lawRounds : Kn.ok Try.prog (kof [(24, q_implLeastStreams), (25, q_specLeastStreams), (47, q_implIsFixed), (48, q_implRoundOf), (26, q_lawBelow), (28, q_makeEqual), (15, q_lawAt)]) := kof_cons k_implLeastStreams (kof_cons k_specLeastStreams (kof_cons k_implIsFixed (kof_cons k_implRoundOf (kof_cons k_lawBelow (kof_cons k_makeEqual (kof_cons k_lawAt ((kof_nil _))))))))
theorem en_MakeNetwork : Enters Try.prog 12 := enters_of Try.func12 rfl rfl
theorem lawRounds_ac (bs : List Int) (hc1 : bs.length < 140737488355328) (hc2 : ∀ x ∈ bs, 0 ≤ x ∧ x ≤ 255) : AC Try.prog 8 [.row false 1 (bs.map bv)] (.bool true) := by
  have e_implLeastStreams := e_implLeastStreams
  have e_specLeastStreams := e_specLeastStreams
  have e_implIsFixed := e_implIsFixed
  have e_implRoundOf := e_implRoundOf
  have e_lawBelow := e_lawBelow
  have e_makeEqual := e_makeEqual
  have e_lawAt := e_lawAt
  have hivl := ivL_eq
  have hro := roLL_ovL
  have hpov := pureLL_ovL
  have hnov := noLoanLL_ovL
  have hrov := roLL_ovL
  have hriv := roLL_ivL
  have hpiv := pureLL_ivL
  have hivl := ivL_eq
  refine AC.of tab_ok Try.func8 rfl (Nat.le_of_ble_eq_true rfl) fun w0 S0 => ?_
  change G _ _ ⟨[(0, .row false 1 (bs.map bv))], [], 167⟩
  apply G.seq
  refine G.rg tab_ok ok_lawRounds (hk := ?_)
  apply G.seq
  apply G.seq
  refine G.rg tab_ok ok_lawRounds (hk := ?_)
  refine G.iff (h1 := fun h1 => ?_) (h2 := fun h1 => ?_)
  · try simp only [decide_eq_true_eq, decide_eq_false_iff_not, Bool.and_eq_true, Bool.and_eq_false_imp, Bool.or_eq_true, Bool.or_eq_false_iff, Bool.not_eq_true', Bool.not_eq_false', bne_iff_ne, beq_iff_eq, bne_eq_false_iff_eq, beq_eq_false_iff_ne, ne_eq, Int.ofNat_lt, Int.not_lt, Int.not_le, Int.ofNat_le, Nat.not_lt, Nat.not_le, gt_iff_lt, ge_iff_le] at h1
    apply G.seq
    refine G.rg tab_ok ok_lawRounds (hk := ?_)
    refine G.fin tab_ok (hr := ?_)
    rfl
  · try simp only [decide_eq_true_eq, decide_eq_false_iff_not, Bool.and_eq_true, Bool.and_eq_false_imp, Bool.or_eq_true, Bool.or_eq_false_iff, Bool.not_eq_true', Bool.not_eq_false', bne_iff_ne, beq_iff_eq, bne_eq_false_iff_eq, beq_eq_false_iff_ne, ne_eq, Int.ofNat_lt, Int.not_lt, Int.not_le, Int.ofNat_le, Nat.not_lt, Nat.not_le, gt_iff_lt, ge_iff_le] at h1
    apply G.skip
    apply G.seq
    have hB : BW bs := ⟨hc2⟩
    have hl0 : bs.length < 1099511627776 := by omega
    refine G.rgN 1 tab_ok ok_lawRounds (hk := ?_)
    refine G.cpX en_MakeNetwork (MakeNetwork_ax bs 6 hB hl0 (by omega) (by omega)) (h := fun y hy => ?_)
    obtain ⟨ps, ks⟩ := y
    simp only at hy
    obtain ⟨hnk, hpo, hks, hpl8⟩ := hy
    refine G.putX (h := ?_)
    refine G.rgC tab_ok ok_lawRounds (hk := ?_)
    refine G.cellRo 1 0 1 0 rfl rfl rfl rfl (by simp) (by decide) (pureLL_kv _) (roLL_kv _) ?_
    simp only [withH, List.set_cons_succ, List.set_cons_zero]
    have hnw := po_nw hpo
    have hkw := ks_kw hks
    have hW := netOk_w hnk
    have hp12 := hW.pl
    have hk30 := hW.kl
    have hpq : ps.length < 3518437208781 := by omega
    have hkq : ks.length < 2513169434844 := by omega
    apply G.seq
    obtain ⟨L, hL⟩ : ∃ x, leastO ps ks = x := ⟨_, rfl⟩
    obtain ⟨H, c, b⟩ := L
    refine G.rg tab_ok ok_lawRounds (hk := ?_)
    refine G.freeze 4 2 rfl (by simp [look]) ?_
    simp only [List.set_cons_succ, List.set_cons_zero, hrov]
    apply G.seq
    refine G.rg tab_ok ok_lawRounds (hk := ?_)
    apply G.seq
    apply G.seq
    refine G.rg tab_ok ok_lawRounds (hk := ?_)
    refine G.iffF (h2 := ?_)
    apply G.skip
    apply G.seq
    apply G.seq
    refine G.rg tab_ok ok_lawRounds (hk := ?_)
    refine G.fg [0, 3, 4, 5, 43, 73, 74, 75, 76, 77, 78, 79, 80, 82, 83, 84, 85, 86, 87, 88, 89, 90, 91, 92, 93, 94, 95, 96, 97, 98, 99] (hk := ?_)
    refine G.iff (h1 := fun h3 => ?_) (h2 := fun h3 => ?_)
    · try simp only [decide_eq_true_eq, decide_eq_false_iff_not, Bool.and_eq_true, Bool.and_eq_false_imp, Bool.or_eq_true, Bool.or_eq_false_iff, Bool.not_eq_true', Bool.not_eq_false', bne_iff_ne, beq_iff_eq, bne_eq_false_iff_eq, beq_eq_false_iff_ne, ne_eq, Int.ofNat_lt, Int.not_lt, Int.not_le, Int.ofNat_le, Nat.not_lt, Nat.not_le, gt_iff_lt, ge_iff_le] at h3
      apply G.seq
      refine G.rg tab_ok ok_lawRounds (hk := ?_)
      refine G.fin tab_ok (hr := ?_)
      rfl
    · try simp only [decide_eq_true_eq, decide_eq_false_iff_not, Bool.and_eq_true, Bool.and_eq_false_imp, Bool.or_eq_true, Bool.or_eq_false_iff, Bool.not_eq_true', Bool.not_eq_false', bne_iff_ne, beq_iff_eq, bne_eq_false_iff_eq, beq_eq_false_iff_ne, ne_eq, Int.ofNat_lt, Int.not_lt, Int.not_le, Int.ofNat_le, Nat.not_lt, Nat.not_le, gt_iff_lt, ge_iff_le] at h3
      apply G.skip
      apply G.seq
      apply G.seq
      have w := least_w (ps := ps) (ks := ks) (by rw [hL]; exact h3)
      rw [hL] at w
      simp only at w
      have hle1 : H.length ≤ ks.length := Nat.le_of_eq w.len
      have hle2 : ks.length ≤ H.length := Nat.le_of_eq w.len.symm
      have hLWH : LW H := all_LW w.str
      have hHb : H.length < 5864062014805 := by omega
      have hfx := w.isFix
      obtain ⟨hr1, hr2⟩ := w.rnds
      have hrc1 : ¬ c < 1 := by omega
      have hrc2 : ¬ c > 300 := by omega
      have hhl : ((H.length : Int) == (ks.length : Int)) = true := by rw [beq_iff_eq]; omega
      refine G.rgN 7 tab_ok ok_lawRounds (hk := ?_)
      refine G.rdN 6 tab_ok ok_lawRounds (hk := ?_)
      refine G.rdN 4 tab_ok ok_lawRounds (hk := ?_)
      refine G.rdC tab_ok ok_lawRounds (hk := ?_)
      refine G.iffF (h2 := ?_)
      apply G.skip
      apply G.seq
      refine G.rg tab_ok ok_lawRounds (hk := ?_)
      apply G.seq
      apply G.seq
      refine G.rg tab_ok ok_lawRounds (hk := ?_)
      apply G.block
      refine G.nm [0, 3, 4, 5, 10, 66, 67, 68] (h := ?_)
      refine G.loopX (fun j : Nat => ⟨[(0, .row false 1 (bs.map bv)), (3, .ptr 0 0 0), (4, .row false 1 (H.map ivL)), (5, .int .i64 c), (10, .sl 1 0 j), (66, .row false 5 (ks.map kv)), (67, .int .i64 ks.length), (68, .int .i64 j)], [some (2, [[.row false 3 (ps.map pv), .row false 5 (ks.map kv)]]), some (1, (cutL bs ks H j).map ivL)], 167⟩) (fun j => j ≤ ks.length) (fun j => ks.length - j) (0) (Nat.zero_le _) (by simp [cutL]) ?_
      intro j hj J hJ
      have hw : IntKind.i64.wrap ((j : Int) + 1) = (j : Int) + 1 := wrap64 (by omega) (by omega)
      have hcll := cutL_len bs ks H j
      have hclt : List.take j ((cutL bs ks H j).map ivL) = (cutL bs ks H j).map ivL := List.take_of_length_le (by simp [cutL_len])
      have hq1 : ((j + 1 : Nat) : Int) ≤ 4611686018427387904 := by omega
      have hq2 : (j + 1) * 24 ≤ 70368744177664 := by omega
      apply G.seq
      refine G.rg tab_ok ok_lawRounds (hk := ?_)
      apply G.seq
      refine G.iff (h1 := fun h5 => ?_) (h2 := fun h5 => ?_)
      · try simp only [decide_eq_true_eq, decide_eq_false_iff_not, Bool.and_eq_true, Bool.and_eq_false_imp, Bool.or_eq_true, Bool.or_eq_false_iff, Bool.not_eq_true', Bool.not_eq_false', bne_iff_ne, beq_iff_eq, bne_eq_false_iff_eq, beq_eq_false_iff_ne, ne_eq, Int.ofNat_lt, Int.not_lt, Int.not_le, Int.ofNat_le, Nat.not_lt, Nat.not_le, gt_iff_lt, ge_iff_le] at h5
        apply G.skip
        apply G.seq
        apply G.block
        apply G.seq
        refine G.rg tab_ok ok_lawRounds (hk := ?_)
        apply G.seq
        apply G.seq
        have hjk : j < ks.length := by omega
        have hjh : j < H.length := by omega
        have htl := w.tok hjk
        have htl2 : ¬ ((H.getD j default).length < (ks.getD j default).tk.length) := by omega
        have hlb : bs.length ≤ 1099511627776 := by omega
        have haj := e_lawAt bs (j : Int) hB hlb (by omega) (by omega)
        refine G.dr mixed tab_ok ok_lawRounds [0, 1, 2, 3, 4, 5, 6, 7, 8] (hk := ?_)
        refine G.iffF (h2 := ?_)
        apply G.skip
        apply G.seq
        have hjl := strLen (List.all_eq_true.1 w.str _ (getD_mem0 hjh))
        have hcn := cutN_le (bs := bs) (h := H) htl
        have haO := atO_ok hB (k := (j : Int)) (by omega)
        obtain ⟨D, hDe⟩ : ∃ D : Nat, D = (H.getD j default).length - (ks.getD j default).tk.length := ⟨_, rfl⟩
        have hD : IntKind.i64.wrap (((H.getD j default).length : Int) - ((ks.getD j default).tk.length : Int)) = (D : Int) := by rw [wrap64 (by omega) (by omega)]; omega
        have hD1 : IntKind.i64.wrap ((D : Int) + 1) = ((D + 1 : Nat) : Int) := by rw [wrap64 (by omega) (by omega)]; omega
        have hDz : ¬ ((D + 1 : Nat) : Int) = 0 := by omega
        obtain ⟨R, hR⟩ : ∃ R : Nat, R = (atO bs (j : Int)).toNat % (D + 1) := ⟨_, rfl⟩
        have hRl : R < D + 1 := by rw [hR]; exact Nat.mod_lt _ (by omega)
        have hm : (atO bs (j : Int)).tmod ((D + 1 : Nat) : Int) = (R : Int) := by
          obtain ⟨a, ha⟩ : ∃ a : Nat, atO bs (j : Int) = (a : Int) := ⟨(atO bs (j : Int)).toNat, by omega⟩
          rw [hR, ha, Int.toNat_natCast]; rfl
        have hRw : IntKind.i64.wrap (R : Int) = (R : Int) := wrap64 (by omega) (by omega)
        have hC : IntKind.i64.wrap (((ks.getD j default).tk.length : Int) + (R : Int)) = ((cutN bs ks H j : Nat) : Int) := by
          rw [wrap64 (by omega) (by omega)]; unfold cutN; rw [← hDe, ← hR]; omega
        have hc0 : ¬ ((H.getD j default).length < cutN bs ks H j) := by omega
        have hcm : min (cutN bs ks H j) (H.getD j default).length = cutN bs ks H j := by omega
        have hct : List.take (cutN bs ks H j) ((H.getD j default).map iv) = ((H.getD j default).take (cutN bs ks H j)).map iv := (List.map_take ..).symm
        have hcl2 : ((H.getD j default).take (cutN bs ks H j)).length = cutN bs ks H j := by rw [List.length_take]; exact hcm
        have hap : (cutL bs ks H j).map ivL ++ [[.row false 1 (((H.getD j default).take (cutN bs ks H j)).map iv)]] = (cutL bs ks H (j + 1)).map ivL := by rw [← cutL_snoc, List.map_append]; rfl
        clear hDe hR haO hjl
        refine G.dr mixed tab_ok ok_lawRounds [0, 1, 2, 3, 4, 6, 7, 8, 9, 10, 11, 12, 13, 14, 15, 5, 16, 17, 18] (hk := ?_)
        refine G.fg [0, 3, 4, 5, 10, 11, 13, 66, 67, 68] (hk := ?_)
        refine G.rg tab_ok ok_lawRounds (hk := ?_)
        apply G.blk
        refine G.rg tab_ok ok_lawRounds (hk := ?_)
        refine G.nm [0, 3, 4, 5, 10, 66, 67, 68] (h := ?_)
        exact G.upto (hJ (j + 1) (by omega) (by omega)) (by simp [cutL_len])
      · try simp only [decide_eq_true_eq, decide_eq_false_iff_not, Bool.and_eq_true, Bool.and_eq_false_imp, Bool.or_eq_true, Bool.or_eq_false_iff, Bool.not_eq_true', Bool.not_eq_false', bne_iff_ne, beq_iff_eq, bne_eq_false_iff_eq, beq_eq_false_iff_ne, ne_eq, Int.ofNat_lt, Int.not_lt, Int.not_le, Int.ofNat_le, Nat.not_lt, Nat.not_le, gt_iff_lt, ge_iff_le] at h5
        refine G.exit rfl ?_
        apply G.seq
        obtain rfl : j = ks.length := by omega
        refine G.freeze 10 1 rfl (by simp [look, cutL_len]) ?_
        simp only [List.set_cons_succ, List.set_cons_zero, hriv]
        have hcr := w.cutRound bs
        have hcl := w.cutLe bs
        have hcL : LeL (cutL bs ks H ks.length) H := by have := cutL_le bs ks (h := H); rw [w.len] at this; exact this
        have hz1 := all_LW (all_less hcL w.str)
        have hz2 : (cutL bs ks H ks.length).length < 5864062014805 := by rw [cutL_len]; omega
        have hz3 := all_LW (all_less hcl w.str)
        have hz4 : (nxts ps ks (cutL bs ks H ks.length)).length < 5864062014805 := by rw [nxts_len]; omega
        have hz5 := below_yes hcl w.str
        clear hcL hcll
        refine G.rg tab_ok ok_lawRounds (hk := ?_)
        refine G.freeze 14 2 rfl (by simp [look]) ?_
        simp only [List.set_cons_succ, List.set_cons_zero, hrov]
        apply G.seq
        apply G.seq
        refine G.rgN 3 tab_ok ok_lawRounds (hk := ?_)
        refine G.rdC tab_ok ok_lawRounds (hk := ?_)
        refine G.iffF (h2 := ?_)
        apply G.skip
        apply G.seq
        refine G.rg tab_ok ok_lawRounds (hk := ?_)
        apply G.seq
        apply G.seq
        refine G.rg tab_ok ok_lawRounds (hk := ?_)
        apply G.block
        refine G.nm [3, 4, 5, 16, 126, 127, 128] (h := ?_)
        refine G.loopX (fun j : Nat => ⟨[(3, .ptr 0 0 0), (4, .row false 1 (H.map ivL)), (5, .int .i64 c), (16, .sl 1 0 j), (126, .row false 5 (ks.map kv)), (127, .int .i64 ks.length), (128, .int .i64 j)], [some (2, [[.row false 3 (ps.map pv), .row false 5 (ks.map kv)]]), some (1, ((tkL ks).take j).map ivL)], 167⟩) (fun j => j ≤ ks.length) (fun j => ks.length - j) (0) (Nat.zero_le _) (by simp) ?_
        intro j hj J hJ
        have hw : IntKind.i64.wrap ((j : Int) + 1) = (j : Int) + 1 := wrap64 (by omega) (by omega)
        have htkl := tkL_len ks
        have hmj : min j (tkL ks).length = j := by omega
        have htk1 : List.take j (((tkL ks).take j).map ivL) = ((tkL ks).take j).map ivL := List.take_of_length_le (by simp; omega)
        clear htkl
        have hq1 : ((j + 1 : Nat) : Int) ≤ 4611686018427387904 := by omega
        have hq2 : (j + 1) * 24 ≤ 70368744177664 := by omega
        apply G.seq
        refine G.rg tab_ok ok_lawRounds (hk := ?_)
        apply G.seq
        refine G.iff (h1 := fun h8 => ?_) (h2 := fun h8 => ?_)
        · try simp only [decide_eq_true_eq, decide_eq_false_iff_not, Bool.and_eq_true, Bool.and_eq_false_imp, Bool.or_eq_true, Bool.or_eq_false_iff, Bool.not_eq_true', Bool.not_eq_false', bne_iff_ne, beq_iff_eq, bne_eq_false_iff_eq, beq_eq_false_iff_ne, ne_eq, Int.ofNat_lt, Int.not_lt, Int.not_le, Int.ofNat_le, Nat.not_lt, Nat.not_le, gt_iff_lt, ge_iff_le] at h8
          apply G.skip
          apply G.seq
          apply G.block
          apply G.seq
          refine G.rg tab_ok ok_lawRounds (hk := ?_)
          have hjk : j < ks.length := by omega
          have hap : ((tkL ks).take j).map ivL ++ [[.row false 1 ((ks.getD j default).tk.map iv)]] = ((tkL ks).take (j + 1)).map ivL := by
            have e : (tkL ks).getD j default = (ks.getD j default).tk := by rw [tkL_get2, if_pos hjk]
            rw [← take_snoc (by rw [tkL_len]; exact hjk), e, List.map_append]; rfl
          refine G.rg tab_ok ok_lawRounds (hk := ?_)
          apply G.blk
          refine G.rg tab_ok ok_lawRounds (hk := ?_)
          refine G.nm [3, 4, 5, 16, 126, 127, 128] (h := ?_)
          exact G.upto (hJ (j + 1) (by omega) (by omega)) (by simp; rw [tkL_len]; omega)
        · try simp only [decide_eq_true_eq, decide_eq_false_iff_not, Bool.and_eq_true, Bool.and_eq_false_imp, Bool.or_eq_true, Bool.or_eq_false_iff, Bool.not_eq_true', Bool.not_eq_false', bne_iff_ne, beq_iff_eq, bne_eq_false_iff_eq, beq_eq_false_iff_ne, ne_eq, Int.ofNat_lt, Int.not_lt, Int.not_le, Int.ofNat_le, Nat.not_lt, Nat.not_le, gt_iff_lt, ge_iff_le] at h8
          refine G.exit rfl ?_
          apply G.seq
          apply G.seq
          obtain rfl : j = ks.length := by omega
          have htf : (tkL ks).take ks.length = tkL ks := List.take_of_length_le (by rw [tkL_len]; exact Nat.le_refl _)
          rw [htf]
          have hlk := tkL_len ks
          refine G.freeze 16 1 rfl (by simp [look, tkL_len]) ?_
          simp only [List.set_cons_succ, List.set_cons_zero, hriv]
          refine G.rg tab_ok ok_lawRounds (hk := ?_)
          apply G.block
          refine G.nm [3, 4, 5, 16, 19] (h := ?_)
          refine G.loopX (fun i : Nat => ⟨[(3, .ptr 0 0 0), (4, .row false 1 (H.map ivL)), (5, .int .i64 c), (16, .row false 1 ((itS ps ks (tkL ks) i).map ivL)), (19, .int .i64 i)], [some (2, [[.row false 3 (ps.map pv), .row false 5 (ks.map kv)]])], 167⟩) (fun i => (i : Int) ≤ c) (fun i => c.toNat - i) (0) (by omega) (by simp [itS]) ?_
          intro i hi J hJ
          have hwi : IntKind.i64.wrap ((i : Int) + 1) = ((i + 1 : Nat) : Int) := by rw [wrap64 (by omega) (by omega)]; omega
          have hir := w.itRound i
          have ha0 := w.above i
          have ha1 := w.above (i + 1)
          have hy1 := all_LW (all_less ha0 w.str)
          have hy2 := all_LW (all_less ha1 w.str)
          have hy3 := itS_len (ps := ps) (ks := ks) i
          have hy4 := itS_len (ps := ps) (ks := ks) (i + 1)
          have hy5 : (itS ps ks (tkL ks) i).length < 5864062014805 := by omega
          have hy6 : (itS ps ks (tkL ks) (i + 1)).length < 5864062014805 := by omega
          have hb0 := below_yes (it_grow (ps := ps) (ks := ks) i) (all_less ha1 w.str)
          have hb1 := below_yes ha1 w.str
          clear hy3 hy4
          apply G.seq
          apply G.seq
          refine G.rg tab_ok ok_lawRounds (hk := ?_)
          refine G.iff (h1 := fun h9 => ?_) (h2 := fun h9 => ?_)
          · try simp only [decide_eq_true_eq, decide_eq_false_iff_not, Bool.and_eq_true, Bool.and_eq_false_imp, Bool.or_eq_true, Bool.or_eq_false_iff, Bool.not_eq_true', Bool.not_eq_false', bne_iff_ne, beq_iff_eq, bne_eq_false_iff_eq, beq_eq_false_iff_ne, ne_eq, Int.ofNat_lt, Int.not_lt, Int.not_le, Int.ofNat_le, Nat.not_lt, Nat.not_le, gt_iff_lt, ge_iff_le] at h9
            apply G.skip
            apply G.seq
            apply G.block
            apply G.seq
            refine G.rg tab_ok ok_lawRounds (hk := ?_)
            refine G.freeze 20 1 rfl (by simp [look]) ?_
            simp only [List.set_cons_succ, List.set_cons_zero, hrov]
            apply G.seq
            apply G.seq
            refine G.rgN 3 tab_ok ok_lawRounds (hk := ?_)
            refine G.rdN 6 tab_ok ok_lawRounds (hk := ?_)
            refine G.rdC tab_ok ok_lawRounds (hk := ?_)
            refine G.iffF (h2 := ?_)
            apply G.skip
            refine G.rg tab_ok ok_lawRounds (hk := ?_)
            apply G.blk
            refine G.rg tab_ok ok_lawRounds (hk := ?_)
            refine G.nm [3, 4, 5, 16, 19] (h := ?_)
            exact G.upto (hJ (i + 1) (by omega) (by omega)) (by simp)
          · try simp only [decide_eq_true_eq, decide_eq_false_iff_not, Bool.and_eq_true, Bool.and_eq_false_imp, Bool.or_eq_true, Bool.or_eq_false_iff, Bool.not_eq_true', Bool.not_eq_false', bne_iff_ne, beq_iff_eq, bne_eq_false_iff_eq, beq_eq_false_iff_ne, ne_eq, Int.ofNat_lt, Int.not_lt, Int.not_le, Int.ofNat_le, Nat.not_lt, Nat.not_le, gt_iff_lt, ge_iff_le] at h9
            refine G.exit rfl ?_
            apply G.seq
            refine G.rg tab_ok ok_lawRounds (hk := ?_)
            refine G.fin tab_ok (hr := ?_)
            obtain rfl : i = c.toNat := by omega
            rw [w.last]
            simp [oneOrTup]
end Go.Proofs.Ytimgfinlbhodhaa.Ab
