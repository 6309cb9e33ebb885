/- Walks of functions of the program: what each answers, for all arguments that meet its conditions. -/
import Derived.Test.YticgaflgbljhlaaAbW1
import Derived.Test.YticgaflgbljhlaaFwGg
import Derived.Test.YticgaflgbljhlaaFwGe
import Derived.Test.YticgaflgbljhlaaFwGd
namespace Go.Proofs.Yticgaflgbljhlaa.Ab
open Go
set_option linter.unusedVariables false
set_option linter.unusedSimpArgs false
set_option maxHeartbeats 4000000
theorem ok_implPermuteNetwork : Kn.ok Try.prog (kof [(74, q_implIsNetwork), (91, q_copyNetwork), (101, q_containsInt), (102, q_copyProgram), (103, q_indexInt)]) := kof_cons k_implIsNetwork (kof_cons k_copyNetwork (kof_cons k_containsInt (kof_cons k_copyProgram (kof_cons k_indexInt ((kof_nil _))))))
theorem implPermuteNetwork_ac (ps : List PG) (ks : List LK) (order : List Int) (hc1 : NW ps) (hc2 : KW ks) (hc3 : ps.length < 3518437208781) (hc4 : ks.length < 2513169434844) (hc5 : order.length < 17592186044416) : AC Try.prog 37 [.agg [.row false 3 (ps.map pv), .row false 5 (ks.map kv)], .row false 1 (order.map iv)] (.tup [.agg [.row true 3 ((permO ps ks order).1.map opv), .row true 5 ((permO ps ks order).2.1.map okv)], .bool (permO ps ks order).2.2]) := by
  have e_implIsNetwork := e_implIsNetwork
  have e_copyNetwork := e_copyNetwork
  have e_containsInt := e_containsInt
  have e_copyProgram := e_copyProgram
  have e_indexInt := e_indexInt
  have hft : (false == true) = false := rfl
  have htf : (true == false) = false := rfl
  refine AC.of tab_ok Try.func37 rfl (Nat.le_of_ble_eq_true rfl) fun w0 S0 => ?_
  change G _ _ ⟨[(0, .agg [.row false 3 (ps.map pv), .row false 5 (ks.map kv)]), (1, .row false 1 (order.map iv))], [], 96⟩
  apply G.seq
  refine G.rg tab_ok ok_implPermuteNetwork (hk := ?_)
  apply G.seq
  apply G.seq
  rcases (show netOk ps ks = false ∨ (netOk ps ks = true ∧ ((order.length : Int) == (ps.length : Int)) = false) ∨ (netOk ps ks = true ∧ ((order.length : Int) == (ps.length : Int)) = true) by cases netOk ps ks <;> cases ((order.length : Int) == (ps.length : Int)) <;> simp) with c1 | ⟨c1, c2⟩ | ⟨hnk, c2⟩
  · skip
    refine G.rg tab_ok ok_implPermuteNetwork (hk := ?_)
    refine G.iffT (h1 := ?_)
    apply G.seq
    refine G.rg tab_ok ok_implPermuteNetwork (hk := ?_)
    refine G.focusNil 1 0 0 3 rfl rfl rfl ?_
    simp only [withH]
    refine G.focusNil 1 0 1 5 rfl rfl rfl ?_
    simp only [withH]
    refine G.fin tab_ok (hr := ?_)
    simp only [oneOrTup, permO_no (Or.inr c1)]
    rfl
  · skip
    refine G.rg tab_ok ok_implPermuteNetwork (hk := ?_)
    refine G.iffT (h1 := ?_)
    apply G.seq
    refine G.rg tab_ok ok_implPermuteNetwork (hk := ?_)
    refine G.focusNil 1 0 0 3 rfl rfl rfl ?_
    simp only [withH]
    refine G.focusNil 1 0 1 5 rfl rfl rfl ?_
    simp only [withH]
    refine G.fin tab_ok (hr := ?_)
    simp only [oneOrTup, permO_no (ks := ks) (Or.inl (perm_len_no (by simpa using c2)))]
    rfl
  · skip
    have hnw := netOk_w hnk
    have hp12 := hnw.pl
    have hk30 := hnw.kl
    have hsm := net_small hnk
    have hol0 : (order.length : Int) = (ps.length : Int) := by simpa using c2
    have ho1 : order.length ≤ ps.length := by omega
    have ho2 : ps.length ≤ order.length := by omega
    have hol : order.length = ps.length := by omega
    clear hol0
    refine G.rg tab_ok ok_implPermuteNetwork (hk := ?_)
    refine G.iffF (h2 := ?_)
    apply G.skip
    apply G.seq
    refine G.rg tab_ok ok_implPermuteNetwork (hk := ?_)
    apply G.seq
    apply G.seq
    refine G.rg tab_ok ok_implPermuteNetwork (hk := ?_)
    apply G.block
    refine G.nm [1, 2, 4, 6, 28, 29] (h := ?_)
    refine G.loopX (fun j : Nat => ⟨[(1, .row false 1 (order.map iv)), (2, .ptr 0 0 0), (4, .ptr 1 0 0), (6, .ptr 2 0 0), (28, .int .i64 ps.length), (29, .int .i64 j)], [some (2, [[.row false 3 (ps.map pv), .row false 5 (ks.map kv)]]), some (2, [[.nils, .nils]]), some (2, [[.sl 3 0 ps.length, .sl 4 0 ks.length]]), some (3, ps.map opv), some (5, ks.map okv)], 96⟩) (fun j => j ≤ ps.length ∧ ∀ k < j, hasI order (k : Int) = true) (fun j => ps.length - j) (0) (⟨Nat.zero_le _, by omega⟩) (by simp) ?_
    intro j hj J hJ
    obtain ⟨hj, hall⟩ := hj
    clear hol
    have hw : IntKind.i64.wrap ((j : Int) + 1) = (j : Int) + 1 := wrap64 (by omega) (by omega)
    apply G.seq
    refine G.rg tab_ok ok_implPermuteNetwork (hk := ?_)
    apply G.seq
    refine G.iff (h1 := fun h4 => ?_) (h2 := fun h4 => ?_)
    · try simp only [decide_eq_true_eq, decide_eq_false_iff_not, Bool.and_eq_true, Bool.and_eq_false_imp, Bool.or_eq_true, Bool.or_eq_false_iff, Bool.not_eq_true', Bool.not_eq_false', bne_iff_ne, beq_iff_eq, bne_eq_false_iff_eq, beq_eq_false_iff_ne, ne_eq, Int.ofNat_lt, Int.not_lt, Int.not_le, Int.ofNat_le, Nat.not_lt, Nat.not_le, gt_iff_lt, ge_iff_le] at h4
      apply G.skip
      apply G.seq
      apply G.block
      apply G.seq
      refine G.rg tab_ok ok_implPermuteNetwork (hk := ?_)
      apply G.seq
      refine G.rg tab_ok ok_implPermuteNetwork (hk := ?_)
      refine G.iff (h1 := fun h5 => ?_) (h2 := fun h5 => ?_)
      · try simp only [decide_eq_true_eq, decide_eq_false_iff_not, Bool.and_eq_true, Bool.and_eq_false_imp, Bool.or_eq_true, Bool.or_eq_false_iff, Bool.not_eq_true', Bool.not_eq_false', bne_iff_ne, beq_iff_eq, bne_eq_false_iff_eq, beq_eq_false_iff_ne, ne_eq, Int.ofNat_lt, Int.not_lt, Int.not_le, Int.ofNat_le, Nat.not_lt, Nat.not_le, gt_iff_lt, ge_iff_le] at h5
        apply G.seq
        refine G.rg tab_ok ok_implPermuteNetwork (hk := ?_)
        refine G.focusNil 1 0 0 3 rfl rfl rfl ?_
        simp only [withH]
        refine G.focusNil 1 0 1 5 rfl rfl rfl ?_
        simp only [withH]
        refine G.fin tab_ok (hr := ?_)
        simp only [oneOrTup, permO_no (ks := ks) (Or.inl (perm_has_no (order := order) (n := ps.length) (k := j) (by omega) h5))]
        rfl
      · try simp only [decide_eq_true_eq, decide_eq_false_iff_not, Bool.and_eq_true, Bool.and_eq_false_imp, Bool.or_eq_true, Bool.or_eq_false_iff, Bool.not_eq_true', Bool.not_eq_false', bne_iff_ne, beq_iff_eq, bne_eq_false_iff_eq, beq_eq_false_iff_ne, ne_eq, Int.ofNat_lt, Int.not_lt, Int.not_le, Int.ofNat_le, Nat.not_lt, Nat.not_le, gt_iff_lt, ge_iff_le] at h5
        apply G.skip
        apply G.blk
        refine G.rg tab_ok ok_implPermuteNetwork (hk := ?_)
        refine G.nm [1, 2, 4, 6, 28, 29] (h := ?_)
        exact G.upto (hJ (j + 1) ⟨by omega, up_step (p := fun k : Nat => hasI order (k : Int) = true) hall h5⟩ (by omega)) (by simp)
    · try simp only [decide_eq_true_eq, decide_eq_false_iff_not, Bool.and_eq_true, Bool.and_eq_false_imp, Bool.or_eq_true, Bool.or_eq_false_iff, Bool.not_eq_true', Bool.not_eq_false', bne_iff_ne, beq_iff_eq, bne_eq_false_iff_eq, beq_eq_false_iff_ne, ne_eq, Int.ofNat_lt, Int.not_lt, Int.not_le, Int.ofNat_le, Nat.not_lt, Nat.not_le, gt_iff_lt, ge_iff_le] at h4
      refine G.exit rfl ?_
      apply G.seq
      apply G.seq
      refine G.rg tab_ok ok_implPermuteNetwork (hk := ?_)
      apply G.block
      have hpm : isPerm order ps.length = true := perm_impl (by omega) (fun k hk => hall k (by omega))
      clear hall hJ hj
      have hol : order.length = ps.length := by omega
      refine G.nm [1, 2, 4, 6, 38, 39, 40] (h := ?_)
      refine G.loopX (fun j : Nat => ⟨[(1, .row false 1 (order.map iv)), (2, .ptr 0 0 0), (4, .ptr 1 0 0), (6, .ptr 2 0 0), (38, .row false 1 (order.map iv)), (39, .int .i64 ps.length), (40, .int .i64 j)], [some (2, [[.row false 3 (ps.map pv), .row false 5 (ks.map kv)]]), some (2, [[.nils, .nils]]), some (2, [[.sl 3 0 ps.length, .sl 4 0 ks.length]]), some (3, (mvPU ps order j).map opv), some (5, ks.map okv)], 96⟩) (fun j => j ≤ ps.length) (fun j => ps.length - j) (0) (Nat.zero_le _) (by simp [mvPU_zero, hol]) ?_
      intro j hj J hJ
      clear hol
      have hw : IntKind.i64.wrap ((j : Int) + 1) = (j : Int) + 1 := wrap64 (by omega) (by omega)
      have hol : order.length = ps.length := (perm_w hpm).1
      apply G.seq
      refine G.rg tab_ok ok_implPermuteNetwork (hk := ?_)
      apply G.seq
      refine G.iff (h1 := fun h6 => ?_) (h2 := fun h6 => ?_)
      · try simp only [decide_eq_true_eq, decide_eq_false_iff_not, Bool.and_eq_true, Bool.and_eq_false_imp, Bool.or_eq_true, Bool.or_eq_false_iff, Bool.not_eq_true', Bool.not_eq_false', bne_iff_ne, beq_iff_eq, bne_eq_false_iff_eq, beq_eq_false_iff_ne, ne_eq, Int.ofNat_lt, Int.not_lt, Int.not_le, Int.ofNat_le, Nat.not_lt, Nat.not_le, gt_iff_lt, ge_iff_le] at h6
        apply G.skip
        apply G.seq
        apply G.block
        apply G.seq
        have hjo : j < order.length := by omega
        have hjp : j < ps.length := by omega
        obtain ⟨a0, a1⟩ := perm_in hpm _ (getD_mem0 hjo)
        have a2 : (order.getD j default).toNat < ps.length := by omega
        have hlr0 := hsm.1 _ a2
        have hlr : (ps.getD (order.getD j default).toNat default).l.length ≤ 1048576 := by omega
        have hPl := mvPU_len (order := order) hol (j := j) (by omega)
        have hji : (j : Int) < (ps.length : Int) := by omega
        have hgt : (List.map opv (mvPU ps order j))[j]? = some (opv ((mvPU ps order j).getD j default)) := by rw [List.getElem?_map, getD_some (by omega)]; rfl
        have hstp := mvPU_set (ps := ps) (order := order) hol hjp
        clear hlr0
        refine G.rg tab_ok ok_implPermuteNetwork (hk := ?_)
        refine G.dr mixed tab_ok ok_implPermuteNetwork [0, 1, 2, 3, 4, 5, 6, 7, 8, 9, 10] (hk := ?_)
        refine G.unfocusE 3 j 2 5 (f := opv) (l := mvPU ps order j) (ps.getD (order.getD j default).toNat default) rfl (by omega) rfl rfl (by decide) (by simp) (pureLL_insv _) rfl ?_
        rw [hstp]
        apply G.blk
        refine G.rg tab_ok ok_implPermuteNetwork (hk := ?_)
        refine G.nm [1, 2, 4, 6, 38, 39, 40] (h := ?_)
        exact G.upto (hJ (j + 1) (by omega) (by omega)) (by simp)
      · try simp only [decide_eq_true_eq, decide_eq_false_iff_not, Bool.and_eq_true, Bool.and_eq_false_imp, Bool.or_eq_true, Bool.or_eq_false_iff, Bool.not_eq_true', Bool.not_eq_false', bne_iff_ne, beq_iff_eq, bne_eq_false_iff_eq, beq_eq_false_iff_ne, ne_eq, Int.ofNat_lt, Int.not_lt, Int.not_le, Int.ofNat_le, Nat.not_lt, Nat.not_le, gt_iff_lt, ge_iff_le] at h6
        refine G.exit rfl ?_
        apply G.seq
        apply G.seq
        refine G.rg tab_ok ok_implPermuteNetwork (hk := ?_)
        apply G.block
        obtain rfl : j = ps.length := by omega
        rw [mvPU_end hol]
        clear hJ hj
        refine G.nm [1, 4, 6, 58, 59] (h := ?_)
        refine G.loopX (fun j : Nat => ⟨[(1, .row false 1 (order.map iv)), (4, .ptr 0 0 0), (6, .ptr 1 0 0), (58, .int .i64 ks.length), (59, .int .i64 j)], [some (2, [[.nils, .nils]]), some (2, [[.sl 2 0 ps.length, .sl 3 0 ks.length]]), some (3, (mvP ps order).map opv), some (5, (mvKU ks order j).map okv)], 96⟩) (fun j => j ≤ ks.length) (fun j => ks.length - j) (0) (Nat.zero_le _) (by simp [mvKU_zero]) ?_
        intro j hj J hJ
        clear hol
        have hw : IntKind.i64.wrap ((j : Int) + 1) = (j : Int) + 1 := wrap64 (by omega) (by omega)
        apply G.seq
        refine G.rg tab_ok ok_implPermuteNetwork (hk := ?_)
        apply G.seq
        refine G.iff (h1 := fun h7 => ?_) (h2 := fun h7 => ?_)
        · try simp only [decide_eq_true_eq, decide_eq_false_iff_not, Bool.and_eq_true, Bool.and_eq_false_imp, Bool.or_eq_true, Bool.or_eq_false_iff, Bool.not_eq_true', Bool.not_eq_false', bne_iff_ne, beq_iff_eq, bne_eq_false_iff_eq, beq_eq_false_iff_ne, ne_eq, Int.ofNat_lt, Int.not_lt, Int.not_le, Int.ofNat_le, Nat.not_lt, Nat.not_le, gt_iff_lt, ge_iff_le] at h7
          apply G.skip
          apply G.seq
          apply G.block
          apply G.seq
          have hjk : j < ks.length := by omega
          have hkl0 := mvKU_len (ks := ks) (order := order) (j := j) (by omega)
          have hgt : (List.map okv (mvKU ks order j))[j]? = some [.int .i64 (ks.getD j default).fr, .int .i64 (ks.getD j default).ou, .int .i64 (ks.getD j default).to, .int .i64 (ks.getD j default).ip, .row true 1 ((ks.getD j default).tk.map iv)] := by rw [List.getElem?_map, getD_some (by omega), mvKU_get hjk]; rfl
          have hge : ∀ a : List A, ((List.map okv (mvKU ks order j)).set j a)[j]? = some a := fun a => List.getElem?_set_self (by rw [List.length_map]; omega)
          have hss : ∀ a b : List A, ((List.map okv (mvKU ks order j)).set j a).set j b = (List.map okv (mvKU ks order j)).set j b := fun a b => List.set_set ..
          have hji : (j : Int) < (ks.length : Int) := by omega
          have hrd0 : rdCells (List.map okv (mvKU ks order j)) j 0 1 = some [.int .i64 (ks.getD j default).fr] := by simp only [rdCells, hgt]; rfl
          have hrd2 : rdCells (List.map okv (mvKU ks order j)) j 2 1 = some [.int .i64 (ks.getD j default).to] := by simp only [rdCells, hgt]; rfl
          have hrdS : ∀ a b c d e : A, rdCells ((List.map okv (mvKU ks order j)).set j [a, b, c, d, e]) j 2 1 = some [c] := fun a b c d e => by simp only [rdCells, hge]; rfl
          refine G.rg tab_ok ok_implPermuteNetwork (hk := ?_)
          apply G.seq
          refine G.rg tab_ok ok_implPermuteNetwork (hk := ?_)
          apply G.seq
          apply G.seq
          refine G.rg tab_ok ok_implPermuteNetwork (hk := ?_)
          refine G.fg [1, 4, 6, 11, 58, 59, 70] (hk := ?_)
          refine G.iff (h1 := fun h8 => ?_) (h2 := fun h8 => ?_)
          · try simp only [decide_eq_true_eq, decide_eq_false_iff_not, Bool.and_eq_true, Bool.and_eq_false_imp, Bool.or_eq_true, Bool.or_eq_false_iff, Bool.not_eq_true', Bool.not_eq_false', bne_iff_ne, beq_iff_eq, bne_eq_false_iff_eq, beq_eq_false_iff_ne, ne_eq, Int.ofNat_lt, Int.not_lt, Int.not_le, Int.ofNat_le, Nat.not_lt, Nat.not_le, gt_iff_lt, ge_iff_le] at h8
            refine G.rg tab_ok ok_implPermuteNetwork (hk := ?_)
            apply G.seq
            refine G.rg tab_ok ok_implPermuteNetwork (hk := ?_)
            refine G.fg [1, 4, 6, 11, 58, 59, 84] (hk := ?_)
            refine G.iff (h1 := fun h9 => ?_) (h2 := fun h9 => ?_)
            · try simp only [decide_eq_true_eq, decide_eq_false_iff_not, Bool.and_eq_true, Bool.and_eq_false_imp, Bool.or_eq_true, Bool.or_eq_false_iff, Bool.not_eq_true', Bool.not_eq_false', bne_iff_ne, beq_iff_eq, bne_eq_false_iff_eq, beq_eq_false_iff_ne, ne_eq, Int.ofNat_lt, Int.not_lt, Int.not_le, Int.ofNat_le, Nat.not_lt, Nat.not_le, gt_iff_lt, ge_iff_le] at h9
              refine G.rg tab_ok ok_implPermuteNetwork (hk := ?_)
              apply G.blk
              first
              | have hfin := mvK_row (ks := ks) (order := order) hjk (a := atI order (ks.getD j default).fr) (b := atI order (ks.getD j default).to) (if_pos (by omega)) (if_pos (by omega))
              | have hfin := mvK_row (ks := ks) (order := order) hjk (a := atI order (ks.getD j default).fr) (b := (ks.getD j default).to) (if_pos (by omega)) (if_neg (by omega))
              | have hfin := mvK_row (ks := ks) (order := order) hjk (a := (ks.getD j default).fr) (b := atI order (ks.getD j default).to) (if_neg (by omega)) (if_pos (by omega))
              | have hfin := mvK_same (ks := ks) (order := order) hjk (by omega) (by omega)
              refine G.rg tab_ok ok_implPermuteNetwork (hk := ?_)
              refine G.nm [1, 4, 6, 58, 59] (h := ?_)
              exact G.upto (hJ (j + 1) (by omega) (by omega)) (by first | (simp; done) | (rw [hfin]; simp; done))
            · try simp only [decide_eq_true_eq, decide_eq_false_iff_not, Bool.and_eq_true, Bool.and_eq_false_imp, Bool.or_eq_true, Bool.or_eq_false_iff, Bool.not_eq_true', Bool.not_eq_false', bne_iff_ne, beq_iff_eq, bne_eq_false_iff_eq, beq_eq_false_iff_ne, ne_eq, Int.ofNat_lt, Int.not_lt, Int.not_le, Int.ofNat_le, Nat.not_lt, Nat.not_le, gt_iff_lt, ge_iff_le] at h9
              apply G.skip
              apply G.blk
              first
              | have hfin := mvK_row (ks := ks) (order := order) hjk (a := atI order (ks.getD j default).fr) (b := atI order (ks.getD j default).to) (if_pos (by omega)) (if_pos (by omega))
              | have hfin := mvK_row (ks := ks) (order := order) hjk (a := atI order (ks.getD j default).fr) (b := (ks.getD j default).to) (if_pos (by omega)) (if_neg (by omega))
              | have hfin := mvK_row (ks := ks) (order := order) hjk (a := (ks.getD j default).fr) (b := atI order (ks.getD j default).to) (if_neg (by omega)) (if_pos (by omega))
              | have hfin := mvK_same (ks := ks) (order := order) hjk (by omega) (by omega)
              refine G.rg tab_ok ok_implPermuteNetwork (hk := ?_)
              refine G.nm [1, 4, 6, 58, 59] (h := ?_)
              exact G.upto (hJ (j + 1) (by omega) (by omega)) (by first | (simp; done) | (rw [hfin]; simp; done))
          · try simp only [decide_eq_true_eq, decide_eq_false_iff_not, Bool.and_eq_true, Bool.and_eq_false_imp, Bool.or_eq_true, Bool.or_eq_false_iff, Bool.not_eq_true', Bool.not_eq_false', bne_iff_ne, beq_iff_eq, bne_eq_false_iff_eq, beq_eq_false_iff_ne, ne_eq, Int.ofNat_lt, Int.not_lt, Int.not_le, Int.ofNat_le, Nat.not_lt, Nat.not_le, gt_iff_lt, ge_iff_le] at h8
            apply G.skip
            apply G.seq
            refine G.rg tab_ok ok_implPermuteNetwork (hk := ?_)
            refine G.iff (h1 := fun h10 => ?_) (h2 := fun h10 => ?_)
            · try simp only [decide_eq_true_eq, decide_eq_false_iff_not, Bool.and_eq_true, Bool.and_eq_false_imp, Bool.or_eq_true, Bool.or_eq_false_iff, Bool.not_eq_true', Bool.not_eq_false', bne_iff_ne, beq_iff_eq, bne_eq_false_iff_eq, beq_eq_false_iff_ne, ne_eq, Int.ofNat_lt, Int.not_lt, Int.not_le, Int.ofNat_le, Nat.not_lt, Nat.not_le, gt_iff_lt, ge_iff_le] at h10
              refine G.rg tab_ok ok_implPermuteNetwork (hk := ?_)
              apply G.blk
              first
              | have hfin := mvK_row (ks := ks) (order := order) hjk (a := atI order (ks.getD j default).fr) (b := atI order (ks.getD j default).to) (if_pos (by omega)) (if_pos (by omega))
              | have hfin := mvK_row (ks := ks) (order := order) hjk (a := atI order (ks.getD j default).fr) (b := (ks.getD j default).to) (if_pos (by omega)) (if_neg (by omega))
              | have hfin := mvK_row (ks := ks) (order := order) hjk (a := (ks.getD j default).fr) (b := atI order (ks.getD j default).to) (if_neg (by omega)) (if_pos (by omega))
              | have hfin := mvK_same (ks := ks) (order := order) hjk (by omega) (by omega)
              refine G.rg tab_ok ok_implPermuteNetwork (hk := ?_)
              refine G.nm [1, 4, 6, 58, 59] (h := ?_)
              exact G.upto (hJ (j + 1) (by omega) (by omega)) (by first | (simp; done) | (rw [hfin]; simp; done))
            · try simp only [decide_eq_true_eq, decide_eq_false_iff_not, Bool.and_eq_true, Bool.and_eq_false_imp, Bool.or_eq_true, Bool.or_eq_false_iff, Bool.not_eq_true', Bool.not_eq_false', bne_iff_ne, beq_iff_eq, bne_eq_false_iff_eq, beq_eq_false_iff_ne, ne_eq, Int.ofNat_lt, Int.not_lt, Int.not_le, Int.ofNat_le, Nat.not_lt, Nat.not_le, gt_iff_lt, ge_iff_le] at h10
              apply G.skip
              apply G.blk
              first
              | have hfin := mvK_row (ks := ks) (order := order) hjk (a := atI order (ks.getD j default).fr) (b := atI order (ks.getD j default).to) (if_pos (by omega)) (if_pos (by omega))
              | have hfin := mvK_row (ks := ks) (order := order) hjk (a := atI order (ks.getD j default).fr) (b := (ks.getD j default).to) (if_pos (by omega)) (if_neg (by omega))
              | have hfin := mvK_row (ks := ks) (order := order) hjk (a := (ks.getD j default).fr) (b := atI order (ks.getD j default).to) (if_neg (by omega)) (if_pos (by omega))
              | have hfin := mvK_same (ks := ks) (order := order) hjk (by omega) (by omega)
              refine G.rg tab_ok ok_implPermuteNetwork (hk := ?_)
              refine G.nm [1, 4, 6, 58, 59] (h := ?_)
              exact G.upto (hJ (j + 1) (by omega) (by omega)) (by first | (simp; done) | (rw [hfin]; simp; done))
        · try simp only [decide_eq_true_eq, decide_eq_false_iff_not, Bool.and_eq_true, Bool.and_eq_false_imp, Bool.or_eq_true, Bool.or_eq_false_iff, Bool.not_eq_true', Bool.not_eq_false', bne_iff_ne, beq_iff_eq, bne_eq_false_iff_eq, beq_eq_false_iff_ne, ne_eq, Int.ofNat_lt, Int.not_lt, Int.not_le, Int.ofNat_le, Nat.not_lt, Nat.not_le, gt_iff_lt, ge_iff_le] at h7
          refine G.exit rfl ?_
          apply G.seq
          refine G.rg tab_ok ok_implPermuteNetwork (hk := ?_)
          obtain rfl : j = ks.length := by omega
          have hol : order.length = ps.length := (perm_w hpm).1
          have hml : (mvP ps order).length = ps.length := by simp [mvP, hol]
          have hml2 : (ks.map (mvK order)).length = ks.length := by simp
          have htp : List.take ps.length ((mvP ps order).map opv) = (mvP ps order).map opv := List.take_of_length_le (by simp [hml])
          have htk : List.take ks.length ((ks.map (mvK order)).map okv) = (ks.map (mvK order)).map okv := List.take_of_length_le (by simp)
          have hml3 : ps.length ≤ (mvP ps order).length := by omega
          rw [mvKU_end]
          refine G.fin tab_ok (hr := ?_)
          simp only [oneOrTup, permO_yes hpm hnk]
def r_implPermuteNetwork (xs0 : List A) (rr : A) : Prop := ∃ (ps : List PG) (ks : List LK) (order : List Int), (NW ps) ∧ (KW ks) ∧ (ps.length < 3518437208781) ∧ (ks.length < 2513169434844) ∧ (order.length < 17592186044416) ∧ xs0 = [.agg [.row false 3 (ps.map pv), .row false 5 (ks.map kv)], .row false 1 (order.map iv)] ∧ rr = .tup [.agg [.row true 3 ((permO ps ks order).1.map opv), .row true 5 ((permO ps ks order).2.1.map okv)], .bool (permO ps ks order).2.2]
noncomputable def q_implPermuteNetwork : List A → Option A := kgr r_implPermuteNetwork
theorem k_implPermuteNetwork : KOk Try.prog (37, q_implPermuteNetwork) := kgr_ok (enters_of Try.func37 rfl rfl) (by rintro xs0 rr ⟨ps, ks, order, hc1, hc2, hc3, hc4, hc5, rfl, rfl⟩; exact implPermuteNetwork_ac ps ks order hc1 hc2 hc3 hc4 hc5)
theorem e_implPermuteNetwork : ∀ (ps : List PG) (ks : List LK) (order : List Int), (NW ps) → (KW ks) → (ps.length < 3518437208781) → (ks.length < 2513169434844) → (order.length < 17592186044416) → q_implPermuteNetwork [.agg [.row false 3 (ps.map pv), .row false 5 (ks.map kv)], .row false 1 (order.map iv)] = some (.tup [.agg [.row true 3 ((permO ps ks order).1.map opv), .row true 5 ((permO ps ks order).2.1.map okv)], .bool (permO ps ks order).2.2]) := by
  intro ps ks order hc1 hc2 hc3 hc4 hc5
  refine kgr_eq (fun xs0 rr r2 h h2 => ?_) ⟨ps, ks, order, hc1, hc2, hc3, hc4, hc5, rfl, rfl⟩
  obtain ⟨ps1, ks1, order1, _, _, _, _, _, e1, rfl⟩ := h; obtain ⟨ps2, ks2, order2, _, _, _, _, _, e2, rfl⟩ := h2
  rw [e1] at e2
  simp only [List.cons.injEq, A.int.injEq, A.agg.injEq, A.row.injEq, pv_inj, kv_inj, iv_inj, true_and, and_true] at e2
  obtain ⟨⟨e3, e4⟩, e5⟩ := e2
  subst e3 e4 e5
  rfl
end Go.Proofs.Yticgaflgbljhlaa.Ab
