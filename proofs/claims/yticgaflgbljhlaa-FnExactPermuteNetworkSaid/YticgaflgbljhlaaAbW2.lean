/- Walks of functions of the program: what each answers, for all arguments that meet its conditions. -/
import Derived.Test.YticgaflgbljhlaaAbW1
import Derived.Test.YticgaflgbljhlaaFwGe
import Derived.Test.YticgaflgbljhlaaFwGd
namespace Go.Proofs.Yticgaflgbljhlaa.Ab
open Go
set_option linter.unusedVariables false
set_option linter.unusedSimpArgs false
set_option maxHeartbeats 4000000
theorem ok_specPermuteNetwork : Kn.ok Try.prog (kof [(100, q_l3Inverse), (65, q_specIsNetwork), (90, q_l3Copy), (96, q_l3Program)]) := kof_cons k_l3Inverse (kof_cons k_specIsNetwork (kof_cons k_l3Copy (kof_cons k_l3Program ((kof_nil _)))))
theorem specPermuteNetwork_ac (ps : List PG) (ks : List LK) (order : List Int) (hc1 : NW ps) (hc2 : KW ks) (hc3 : ps.length < 3518437208781) (hc4 : ks.length < 2513169434844) (hc5 : order.length < 17592186044416) : AC Try.prog 36 [.agg [.row false 3 (ps.map pv), .row false 5 (ks.map kv)], .row false 1 (order.map iv)] (.tup [.agg [.row true 3 ((permO ps ks order).1.map opv), .row true 5 ((permO ps ks order).2.1.map okv)], .bool (permO ps ks order).2.2]) := by
  have e_l3Inverse := e_l3Inverse
  have e_specIsNetwork := e_specIsNetwork
  have e_l3Copy := e_l3Copy
  have e_l3Program := e_l3Program
  have hil := invO_len (order := order) (n := ps.length)
  obtain ⟨V, hV⟩ : ∃ x, invO order ps.length = x := ⟨_, rfl⟩
  rw [hV] at hil
  have hVl : V.1.length < 17592186044416 := by omega
  have hft : (false == true) = false := rfl
  have htf : (true == false) = false := rfl
  refine AC.of tab_ok Try.func36 rfl (Nat.le_of_ble_eq_true rfl) fun w0 S0 => ?_
  change G _ _ ⟨[(0, .agg [.row false 3 (ps.map pv), .row false 5 (ks.map kv)]), (1, .row false 1 (order.map iv))], [], 85⟩
  apply G.seq
  refine G.rg tab_ok ok_specPermuteNetwork (hk := ?_)
  apply G.seq
  refine G.rg tab_ok ok_specPermuteNetwork (hk := ?_)
  apply G.seq
  apply G.seq
  rcases (show isPerm order ps.length = false ∨ (isPerm order ps.length = true ∧ netOk ps ks = false) ∨ (isPerm order ps.length = true ∧ netOk ps ks = true) by cases isPerm order ps.length <;> cases netOk ps ks <;> simp) with c1 | ⟨c1, c2⟩ | ⟨hpm, hnk⟩
  · skip
    have hV2 : V.2 = false := by rw [← hV, invO_snd]; exact c1
    refine G.rg tab_ok ok_specPermuteNetwork (hk := ?_)
    refine G.iffT (h1 := ?_)
    apply G.seq
    refine G.rg tab_ok ok_specPermuteNetwork (hk := ?_)
    refine G.focusNil 1 0 0 3 rfl rfl rfl ?_
    simp only [withH]
    refine G.focusNil 1 0 1 5 rfl rfl rfl ?_
    simp only [withH]
    refine G.fin tab_ok (hr := ?_)
    simp only [oneOrTup, permO_no (ks := ks) (Or.inl c1)]
    rfl
  · skip
    have hV2 : V.2 = true := by rw [← hV, invO_snd]; exact c1
    refine G.rg tab_ok ok_specPermuteNetwork (hk := ?_)
    refine G.iffT (h1 := ?_)
    apply G.seq
    refine G.rg tab_ok ok_specPermuteNetwork (hk := ?_)
    refine G.focusNil 1 0 0 3 rfl rfl rfl ?_
    simp only [withH]
    refine G.focusNil 1 0 1 5 rfl rfl rfl ?_
    simp only [withH]
    refine G.fin tab_ok (hr := ?_)
    simp only [oneOrTup, permO_no (Or.inr c2)]
    rfl
  · skip
    have hV2 : V.2 = true := by rw [← hV, invO_snd]; exact hpm
    have hnw := netOk_w hnk
    have hp12 := hnw.pl
    have hk30 := hnw.kl
    have hsm := net_small hnk
    have hol : order.length = ps.length := (perm_w hpm).1
    have ho1 : order.length ≤ ps.length := Nat.le_of_eq hol
    have ho2 : ps.length ≤ order.length := Nat.le_of_eq hol.symm
    obtain ⟨AL, hAL⟩ : ∃ x, (List.range ps.length).map (fun (k : Nat) => atI order k) = x := ⟨_, rfl⟩
    have hAl : AL.length = ps.length := by rw [← hAL]; simp
    have hV1 : V = (AL, true) := by rw [← hV, invO_yes hpm, hAL]
    subst hV1
    clear hV2 hV hil
    have hAm : min ps.length AL.length = ps.length := by omega
    rw [hAl] at hVl
    refine G.rg tab_ok ok_specPermuteNetwork (hk := ?_)
    refine G.iffF (h2 := ?_)
    apply G.skip
    apply G.seq
    refine G.rg tab_ok ok_specPermuteNetwork (hk := ?_)
    apply G.seq
    apply G.seq
    refine G.rg tab_ok ok_specPermuteNetwork (hk := ?_)
    apply G.block
    refine G.nm [2, 4, 6, 8, 31, 32, 33] (h := ?_)
    refine G.loopX (fun j : Nat => ⟨[(2, .ptr 0 0 0), (4, .ptr 1 0 0), (6, .sl 2 0 ps.length), (8, .ptr 3 0 0), (31, .row false 1 (order.map iv)), (32, .int .i64 ps.length), (33, .int .i64 j)], [some (2, [[.row false 3 (ps.map pv), .row false 5 (ks.map kv)]]), some (2, [[.nils, .nils]]), some (1, AL.map iv), some (2, [[.sl 4 0 ps.length, .sl 5 0 ks.length]]), some (3, (mvPU ps order j).map opv), some (5, ks.map okv)], 85⟩) (fun j => j ≤ ps.length) (fun j => ps.length - j) (0) (Nat.zero_le _) (by simp [mvPU_zero, hol, hAl]) ?_
    intro j hj J hJ
    clear hol hAl
    have hw : IntKind.i64.wrap ((j : Int) + 1) = (j : Int) + 1 := wrap64 (by omega) (by omega)
    have hol : order.length = ps.length := (perm_w hpm).1
    apply G.seq
    refine G.rg tab_ok ok_specPermuteNetwork (hk := ?_)
    apply G.seq
    refine G.iff (h1 := fun h4 => ?_) (h2 := fun h4 => ?_)
    · try simp only [decide_eq_true_eq, decide_eq_false_iff_not, Bool.and_eq_true, Bool.and_eq_false_imp, Bool.or_eq_true, Bool.or_eq_false_iff, Bool.not_eq_true', Bool.not_eq_false', bne_iff_ne, beq_iff_eq, bne_eq_false_iff_eq, beq_eq_false_iff_ne, ne_eq, Int.ofNat_lt, Int.not_lt, Int.not_le, Int.ofNat_le, Nat.not_lt, Nat.not_le, gt_iff_lt, ge_iff_le] at h4
      apply G.skip
      apply G.seq
      apply G.block
      apply G.seq
      have hjo : j < order.length := by omega
      have hjp : j < ps.length := by omega
      obtain ⟨a0, a1⟩ := perm_in hpm _ (getD_mem0 hjo)
      have a2 : (order.getD j default).toNat < ps.length := by omega
      have hlr0 := hsm.1 _ a2
      have hlr : (ps.getD (order.getD j default).toNat default).l.length ≤ 1048576 := by omega
      have hPl := mvPU_len (order := order) hol (j := j) (by omega)
      have hji : (j : Int) < (ps.length : Int) := by omega
      have hgt : (List.map opv (mvPU ps order j))[j]? = some (opv ((mvPU ps order j).getD j default)) := by rw [List.getElem?_map, getD_some (by omega)]; rfl
      have hstp := mvPU_set (ps := ps) (order := order) hol hjp
      clear hlr0
      refine G.rg tab_ok ok_specPermuteNetwork (hk := ?_)
      refine G.dr mixed tab_ok ok_specPermuteNetwork [0, 1, 2, 3, 4, 5, 6, 7, 8, 9, 10] (hk := ?_)
      first
      | (refine G.unfocusE 4 j 2 6 (f := opv) (l := mvPU ps order j) (ps.getD (order.getD j default).toNat default) rfl (by omega) rfl rfl (by decide) (by simp) (pureLL_insv _) rfl ?_
         rw [hstp])
      | (refine G.unfocusE 4 j 2 7 (f := opv) (l := mvPU ps order j) (ps.getD (order.getD j default).toNat default) rfl (by omega) rfl rfl (by decide) (by simp) (pureLL_insv _) rfl ?_
         rw [hstp])
      apply G.blk
      refine G.rg tab_ok ok_specPermuteNetwork (hk := ?_)
      refine G.nm [2, 4, 6, 8, 31, 32, 33] (h := ?_)
      exact G.upto (hJ (j + 1) (by omega) (by omega)) (by simp)
    · try simp only [decide_eq_true_eq, decide_eq_false_iff_not, Bool.and_eq_true, Bool.and_eq_false_imp, Bool.or_eq_true, Bool.or_eq_false_iff, Bool.not_eq_true', Bool.not_eq_false', bne_iff_ne, beq_iff_eq, bne_eq_false_iff_eq, beq_eq_false_iff_ne, ne_eq, Int.ofNat_lt, Int.not_lt, Int.not_le, Int.ofNat_le, Nat.not_lt, Nat.not_le, gt_iff_lt, ge_iff_le] at h4
      refine G.exit rfl ?_
      apply G.seq
      apply G.seq
      refine G.rg tab_ok ok_specPermuteNetwork (hk := ?_)
      apply G.block
      obtain rfl : j = ps.length := by omega
      rw [mvPU_end hol]
      clear hJ hj
      refine G.nm [4, 6, 8, 50, 51, 52] (h := ?_)
      refine G.loopX (fun j : Nat => ⟨[(4, .ptr 0 0 0), (6, .sl 1 0 ps.length), (8, .ptr 2 0 0), (50, .row false 5 (ks.map kv)), (51, .int .i64 ks.length), (52, .int .i64 j)], [some (2, [[.nils, .nils]]), some (1, AL.map iv), some (2, [[.sl 3 0 ps.length, .sl 4 0 ks.length]]), some (3, (mvP ps order).map opv), some (5, (mvKU ks order j).map okv)], 85⟩) (fun j => j ≤ ks.length) (fun j => ks.length - j) (0) (Nat.zero_le _) (by simp [mvKU_zero]) ?_
      intro j hj J hJ
      have hw : IntKind.i64.wrap ((j : Int) + 1) = (j : Int) + 1 := wrap64 (by omega) (by omega)
      apply G.seq
      refine G.rg tab_ok ok_specPermuteNetwork (hk := ?_)
      apply G.seq
      refine G.iff (h1 := fun h5 => ?_) (h2 := fun h5 => ?_)
      · try simp only [decide_eq_true_eq, decide_eq_false_iff_not, Bool.and_eq_true, Bool.and_eq_false_imp, Bool.or_eq_true, Bool.or_eq_false_iff, Bool.not_eq_true', Bool.not_eq_false', bne_iff_ne, beq_iff_eq, bne_eq_false_iff_eq, beq_eq_false_iff_ne, ne_eq, Int.ofNat_lt, Int.not_lt, Int.not_le, Int.ofNat_le, Nat.not_lt, Nat.not_le, gt_iff_lt, ge_iff_le] at h5
        apply G.skip
        apply G.seq
        apply G.block
        apply G.seq
        have hjk : j < ks.length := by omega
        have hkl0 := mvKU_len (ks := ks) (order := order) (j := j) (by omega)
        have hgt : (List.map okv (mvKU ks order j))[j]? = some [.int .i64 (ks.getD j default).fr, .int .i64 (ks.getD j default).ou, .int .i64 (ks.getD j default).to, .int .i64 (ks.getD j default).ip, .row true 1 ((ks.getD j default).tk.map iv)] := by rw [List.getElem?_map, getD_some (by omega), mvKU_get hjk]; rfl
        have hge : ∀ a : List A, ((List.map okv (mvKU ks order j)).set j a)[j]? = some a := fun a => List.getElem?_set_self (by rw [List.length_map]; omega)
        have hss : ∀ a b : List A, ((List.map okv (mvKU ks order j)).set j a).set j b = (List.map okv (mvKU ks order j)).set j b := fun a b => List.set_set ..
        have hji : (j : Int) < (ks.length : Int) := by omega
        refine G.rg tab_ok ok_specPermuteNetwork (hk := ?_)
        apply G.seq
        apply G.seq
        refine G.rg tab_ok ok_specPermuteNetwork (hk := ?_)
        refine G.fg [4, 6, 8, 11, 12, 50, 51, 52, 59, 60, 61, 62, 63, 64, 65, 66, 67, 68, 69, 73, 74, 75, 76, 77, 78, 79, 80, 81, 82] (hk := ?_)
        refine G.iff (h1 := fun h6 => ?_) (h2 := fun h6 => ?_)
        · try simp only [decide_eq_true_eq, decide_eq_false_iff_not, Bool.and_eq_true, Bool.and_eq_false_imp, Bool.or_eq_true, Bool.or_eq_false_iff, Bool.not_eq_true', Bool.not_eq_false', bne_iff_ne, beq_iff_eq, bne_eq_false_iff_eq, beq_eq_false_iff_ne, ne_eq, Int.ofNat_lt, Int.not_lt, Int.not_le, Int.ofNat_le, Nat.not_lt, Nat.not_le, gt_iff_lt, ge_iff_le] at h6
          obtain ⟨e1, e2, e3⟩ := ends_fr (linkOk_ends (hnw.lk j hjk)) h6
          have e4 : (ks.getD j default).fr < (ps.length : Int) := by omega
          have e5 : (ks.getD j default).fr.toNat < AL.length := by rw [← hAL, List.length_map, List.length_range]; exact e1
          have e6 : AL.getD (ks.getD j default).fr.toNat default = atI order (ks.getD j default).fr := by
            rw [← hAL, at_list ps.length e1, show (((ks.getD j default).fr.toNat : Nat) : Int) = (ks.getD j default).fr by omega]
          have g0 : (0 : Int) ≤ (ks.getD j default).fr := h6
          clear e2 e3
          refine G.dr mixed tab_ok ok_specPermuteNetwork [0, 1, 2, 3, 4, 5, 6, 7, 8, 9, 10] (hk := ?_)
          apply G.seq
          refine G.rg tab_ok ok_specPermuteNetwork (hk := ?_)
          refine G.fg [4, 6, 8, 11, 12, 50, 51, 52, 72, 73, 74, 75, 76, 77, 78, 79, 80, 81, 82] (hk := ?_)
          refine G.iff (h1 := fun h7 => ?_) (h2 := fun h7 => ?_)
          · try simp only [decide_eq_true_eq, decide_eq_false_iff_not, Bool.and_eq_true, Bool.and_eq_false_imp, Bool.or_eq_true, Bool.or_eq_false_iff, Bool.not_eq_true', Bool.not_eq_false', bne_iff_ne, beq_iff_eq, bne_eq_false_iff_eq, beq_eq_false_iff_ne, ne_eq, Int.ofNat_lt, Int.not_lt, Int.not_le, Int.ofNat_le, Nat.not_lt, Nat.not_le, gt_iff_lt, ge_iff_le] at h7
            obtain ⟨e1, e2, e3⟩ := ends_to (linkOk_ends (hnw.lk j hjk)) h7
            have e4 : (ks.getD j default).to < (ps.length : Int) := by omega
            have e5 : (ks.getD j default).to.toNat < AL.length := by rw [← hAL, List.length_map, List.length_range]; exact e1
            have e6 : AL.getD (ks.getD j default).to.toNat default = atI order (ks.getD j default).to := by
              rw [← hAL, at_list ps.length e1, show (((ks.getD j default).to.toNat : Nat) : Int) = (ks.getD j default).to by omega]
            have g0 : (0 : Int) ≤ (ks.getD j default).to := h7
            clear e2 e3
            refine G.dr mixed tab_ok ok_specPermuteNetwork [0, 1, 2, 3, 4, 5, 6, 7, 8, 9, 10] (hk := ?_)
            apply G.blk
            first
            | have hfin := mvK_row (ks := ks) (order := order) hjk (a := atI order (ks.getD j default).fr) (b := atI order (ks.getD j default).to) (if_pos (by omega)) (if_pos (by omega))
            | have hfin := mvK_row (ks := ks) (order := order) hjk (a := atI order (ks.getD j default).fr) (b := (ks.getD j default).to) (if_pos (by omega)) (if_neg (by omega))
            | have hfin := mvK_row (ks := ks) (order := order) hjk (a := (ks.getD j default).fr) (b := atI order (ks.getD j default).to) (if_neg (by omega)) (if_pos (by omega))
            | have hfin := mvK_same (ks := ks) (order := order) hjk (by omega) (by omega)
            refine G.rg tab_ok ok_specPermuteNetwork (hk := ?_)
            refine G.nm [4, 6, 8, 50, 51, 52] (h := ?_)
            exact G.upto (hJ (j + 1) (by omega) (by omega)) (by first | (simp; done) | (rw [hfin]; simp; done))
          · try simp only [decide_eq_true_eq, decide_eq_false_iff_not, Bool.and_eq_true, Bool.and_eq_false_imp, Bool.or_eq_true, Bool.or_eq_false_iff, Bool.not_eq_true', Bool.not_eq_false', bne_iff_ne, beq_iff_eq, bne_eq_false_iff_eq, beq_eq_false_iff_ne, ne_eq, Int.ofNat_lt, Int.not_lt, Int.not_le, Int.ofNat_le, Nat.not_lt, Nat.not_le, gt_iff_lt, ge_iff_le] at h7
            apply G.skip
            apply G.blk
            first
            | have hfin := mvK_row (ks := ks) (order := order) hjk (a := atI order (ks.getD j default).fr) (b := atI order (ks.getD j default).to) (if_pos (by omega)) (if_pos (by omega))
            | have hfin := mvK_row (ks := ks) (order := order) hjk (a := atI order (ks.getD j default).fr) (b := (ks.getD j default).to) (if_pos (by omega)) (if_neg (by omega))
            | have hfin := mvK_row (ks := ks) (order := order) hjk (a := (ks.getD j default).fr) (b := atI order (ks.getD j default).to) (if_neg (by omega)) (if_pos (by omega))
            | have hfin := mvK_same (ks := ks) (order := order) hjk (by omega) (by omega)
            refine G.rg tab_ok ok_specPermuteNetwork (hk := ?_)
            refine G.nm [4, 6, 8, 50, 51, 52] (h := ?_)
            exact G.upto (hJ (j + 1) (by omega) (by omega)) (by first | (simp; done) | (rw [hfin]; simp; done))
        · try simp only [decide_eq_true_eq, decide_eq_false_iff_not, Bool.and_eq_true, Bool.and_eq_false_imp, Bool.or_eq_true, Bool.or_eq_false_iff, Bool.not_eq_true', Bool.not_eq_false', bne_iff_ne, beq_iff_eq, bne_eq_false_iff_eq, beq_eq_false_iff_ne, ne_eq, Int.ofNat_lt, Int.not_lt, Int.not_le, Int.ofNat_le, Nat.not_lt, Nat.not_le, gt_iff_lt, ge_iff_le] at h6
          apply G.skip
          apply G.seq
          refine G.rg tab_ok ok_specPermuteNetwork (hk := ?_)
          refine G.iff (h1 := fun h8 => ?_) (h2 := fun h8 => ?_)
          · try simp only [decide_eq_true_eq, decide_eq_false_iff_not, Bool.and_eq_true, Bool.and_eq_false_imp, Bool.or_eq_true, Bool.or_eq_false_iff, Bool.not_eq_true', Bool.not_eq_false', bne_iff_ne, beq_iff_eq, bne_eq_false_iff_eq, beq_eq_false_iff_ne, ne_eq, Int.ofNat_lt, Int.not_lt, Int.not_le, Int.ofNat_le, Nat.not_lt, Nat.not_le, gt_iff_lt, ge_iff_le] at h8
            obtain ⟨e1, e2, e3⟩ := ends_to (linkOk_ends (hnw.lk j hjk)) h8
            have e4 : (ks.getD j default).to < (ps.length : Int) := by omega
            have e5 : (ks.getD j default).to.toNat < AL.length := by rw [← hAL, List.length_map, List.length_range]; exact e1
            have e6 : AL.getD (ks.getD j default).to.toNat default = atI order (ks.getD j default).to := by
              rw [← hAL, at_list ps.length e1, show (((ks.getD j default).to.toNat : Nat) : Int) = (ks.getD j default).to by omega]
            have g0 : (0 : Int) ≤ (ks.getD j default).to := h8
            clear e2 e3
            refine G.dr mixed tab_ok ok_specPermuteNetwork [0, 1, 2, 3, 4, 5, 6, 7, 8, 9, 10] (hk := ?_)
            apply G.blk
            first
            | have hfin := mvK_row (ks := ks) (order := order) hjk (a := atI order (ks.getD j default).fr) (b := atI order (ks.getD j default).to) (if_pos (by omega)) (if_pos (by omega))
            | have hfin := mvK_row (ks := ks) (order := order) hjk (a := atI order (ks.getD j default).fr) (b := (ks.getD j default).to) (if_pos (by omega)) (if_neg (by omega))
            | have hfin := mvK_row (ks := ks) (order := order) hjk (a := (ks.getD j default).fr) (b := atI order (ks.getD j default).to) (if_neg (by omega)) (if_pos (by omega))
            | have hfin := mvK_same (ks := ks) (order := order) hjk (by omega) (by omega)
            refine G.rg tab_ok ok_specPermuteNetwork (hk := ?_)
            refine G.nm [4, 6, 8, 50, 51, 52] (h := ?_)
            exact G.upto (hJ (j + 1) (by omega) (by omega)) (by first | (simp; done) | (rw [hfin]; simp; done))
          · try simp only [decide_eq_true_eq, decide_eq_false_iff_not, Bool.and_eq_true, Bool.and_eq_false_imp, Bool.or_eq_true, Bool.or_eq_false_iff, Bool.not_eq_true', Bool.not_eq_false', bne_iff_ne, beq_iff_eq, bne_eq_false_iff_eq, beq_eq_false_iff_ne, ne_eq, Int.ofNat_lt, Int.not_lt, Int.not_le, Int.ofNat_le, Nat.not_lt, Nat.not_le, gt_iff_lt, ge_iff_le] at h8
            apply G.skip
            apply G.blk
            first
            | have hfin := mvK_row (ks := ks) (order := order) hjk (a := atI order (ks.getD j default).fr) (b := atI order (ks.getD j default).to) (if_pos (by omega)) (if_pos (by omega))
            | have hfin := mvK_row (ks := ks) (order := order) hjk (a := atI order (ks.getD j default).fr) (b := (ks.getD j default).to) (if_pos (by omega)) (if_neg (by omega))
            | have hfin := mvK_row (ks := ks) (order := order) hjk (a := (ks.getD j default).fr) (b := atI order (ks.getD j default).to) (if_neg (by omega)) (if_pos (by omega))
            | have hfin := mvK_same (ks := ks) (order := order) hjk (by omega) (by omega)
            refine G.rg tab_ok ok_specPermuteNetwork (hk := ?_)
            refine G.nm [4, 6, 8, 50, 51, 52] (h := ?_)
            exact G.upto (hJ (j + 1) (by omega) (by omega)) (by first | (simp; done) | (rw [hfin]; simp; done))
      · try simp only [decide_eq_true_eq, decide_eq_false_iff_not, Bool.and_eq_true, Bool.and_eq_false_imp, Bool.or_eq_true, Bool.or_eq_false_iff, Bool.not_eq_true', Bool.not_eq_false', bne_iff_ne, beq_iff_eq, bne_eq_false_iff_eq, beq_eq_false_iff_ne, ne_eq, Int.ofNat_lt, Int.not_lt, Int.not_le, Int.ofNat_le, Nat.not_lt, Nat.not_le, gt_iff_lt, ge_iff_le] at h5
        refine G.exit rfl ?_
        apply G.seq
        refine G.rg tab_ok ok_specPermuteNetwork (hk := ?_)
        obtain rfl : j = ks.length := by omega
        have hml : (mvP ps order).length = ps.length := by simp [mvP, hol]
        have hml2 : (ks.map (mvK order)).length = ks.length := by simp
        have htp : List.take ps.length ((mvP ps order).map opv) = (mvP ps order).map opv := List.take_of_length_le (by simp [hml])
        have htk : List.take ks.length ((ks.map (mvK order)).map okv) = (ks.map (mvK order)).map okv := List.take_of_length_le (by simp)
        have hml3 : ps.length ≤ (mvP ps order).length := by omega
        rw [mvKU_end]
        refine G.fin tab_ok (hr := ?_)
        simp only [oneOrTup, permO_yes hpm hnk]
def r_specPermuteNetwork (xs0 : List A) (rr : A) : Prop := ∃ (ps : List PG) (ks : List LK) (order : List Int), (NW ps) ∧ (KW ks) ∧ (ps.length < 3518437208781) ∧ (ks.length < 2513169434844) ∧ (order.length < 17592186044416) ∧ xs0 = [.agg [.row false 3 (ps.map pv), .row false 5 (ks.map kv)], .row false 1 (order.map iv)] ∧ rr = .tup [.agg [.row true 3 ((permO ps ks order).1.map opv), .row true 5 ((permO ps ks order).2.1.map okv)], .bool (permO ps ks order).2.2]
noncomputable def q_specPermuteNetwork : List A → Option A := kgr r_specPermuteNetwork
theorem k_specPermuteNetwork : KOk Try.prog (36, q_specPermuteNetwork) := kgr_ok (enters_of Try.func36 rfl rfl) (by rintro xs0 rr ⟨ps, ks, order, hc1, hc2, hc3, hc4, hc5, rfl, rfl⟩; exact specPermuteNetwork_ac ps ks order hc1 hc2 hc3 hc4 hc5)
theorem e_specPermuteNetwork : ∀ (ps : List PG) (ks : List LK) (order : List Int), (NW ps) → (KW ks) → (ps.length < 3518437208781) → (ks.length < 2513169434844) → (order.length < 17592186044416) → q_specPermuteNetwork [.agg [.row false 3 (ps.map pv), .row false 5 (ks.map kv)], .row false 1 (order.map iv)] = some (.tup [.agg [.row true 3 ((permO ps ks order).1.map opv), .row true 5 ((permO ps ks order).2.1.map okv)], .bool (permO ps ks order).2.2]) := by
  intro ps ks order hc1 hc2 hc3 hc4 hc5
  refine kgr_eq (fun xs0 rr r2 h h2 => ?_) ⟨ps, ks, order, hc1, hc2, hc3, hc4, hc5, rfl, rfl⟩
  obtain ⟨ps1, ks1, order1, _, _, _, _, _, e1, rfl⟩ := h; obtain ⟨ps2, ks2, order2, _, _, _, _, _, e2, rfl⟩ := h2
  rw [e1] at e2
  simp only [List.cons.injEq, A.int.injEq, A.agg.injEq, A.row.injEq, pv_inj, kv_inj, iv_inj, true_and, and_true] at e2
  obtain ⟨⟨e3, e4⟩, e5⟩ := e2
  subst e3 e4 e5
  rfl
end Go.Proofs.Yticgaflgbljhlaa.Ab
