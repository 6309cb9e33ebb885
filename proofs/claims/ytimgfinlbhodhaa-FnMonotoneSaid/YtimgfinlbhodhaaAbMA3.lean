/- Walks of functions of the program: what each answers, for all arguments that meet its conditions. -/
import Derived.Test.YtimgfinlbhodhaaAbMA1
import Derived.Test.YtimgfinlbhodhaaFwGj
import Derived.Test.YtimgfinlbhodhaaAbG5
import Derived.Test.YtimgfinlbhodhaaAbH3
import Derived.Test.YtimgfinlbhodhaaAbH4
import Derived.Test.YtimgfinlbhodhaaAbX3
import Derived.Test.YtimgfinlbhodhaaAbC5
import Derived.Test.YtimgfinlbhodhaaAbT1
import Derived.Test.YtimgfinlbhodhaaAbAutoI
namespace Go.Proofs.Ytimgfinlbhodhaa.Ab
open Go
set_option linter.unusedVariables false
set_option linter.unusedSimpArgs false
set_option maxHeartbeats 4000000
theorem ok_lawMonotone : Kn.ok Try.prog (kof [(59, q_specInputsOf), (15, q_lawAt), (23, q_lawFresh), (30, q_makeStream), (60, q_implFeedNetwork), (24, q_implLeastStreams), (25, q_specLeastStreams), (26, q_lawBelow), (61, q_implAreBelow)]) := kof_cons k_specInputsOf (kof_cons k_lawAt (kof_cons k_lawFresh (kof_cons k_makeStream (kof_cons k_implFeedNetwork (kof_cons k_implLeastStreams (kof_cons k_specLeastStreams (kof_cons k_lawBelow (kof_cons k_implAreBelow ((kof_nil _))))))))))
theorem en_MakeNetwork : Enters Try.prog 12 := enters_of Try.func12 rfl rfl
theorem lawMonotone_ac (bs : List Int) (hc1 : bs.length < 140737488355328) (hc2 : ∀ x ∈ bs, 0 ≤ x ∧ x ≤ 255) : AC Try.prog 11 [.row false 1 (bs.map bv)] (.bool true) := by
  have e_specInputsOf := e_specInputsOf
  have e_lawAt := e_lawAt
  have e_lawFresh := e_lawFresh
  have e_makeStream := e_makeStream
  have e_implFeedNetwork := e_implFeedNetwork
  have e_implLeastStreams := e_implLeastStreams
  have e_specLeastStreams := e_specLeastStreams
  have e_lawBelow := e_lawBelow
  have e_implAreBelow := e_implAreBelow
  have hivl := ivL_eq
  have hro := roLL_ovL
  have hpov := pureLL_ovL
  have hnov := noLoanLL_ovL
  have hrov := roLL_ovL
  have hriv := roLL_ivL
  have hpiv := pureLL_ivL
  have hri := roLL_iv
  have hrb := roLL_bv
  have hivl := ivL_eq
  refine AC.of tab_ok Try.func11 rfl (Nat.le_of_ble_eq_true rfl) fun w0 S0 => ?_
  change G _ _ ⟨[(0, .row false 1 (bs.map bv))], [], 84⟩
  apply G.seq
  refine G.rg tab_ok ok_lawMonotone (hk := ?_)
  apply G.seq
  apply G.seq
  refine G.rg tab_ok ok_lawMonotone (hk := ?_)
  refine G.iff (h1 := fun h1 => ?_) (h2 := fun h1 => ?_)
  · try simp only [zz, bne_iff_ne, beq_iff_eq, bne_eq_false_iff_eq, beq_eq_false_iff_ne, ne_eq, gt_iff_lt, ge_iff_le] at h1
    apply G.seq
    refine G.rg tab_ok ok_lawMonotone (hk := ?_)
    refine G.fin tab_ok (hr := ?_)
    rfl
  · try simp only [zz, bne_iff_ne, beq_iff_eq, bne_eq_false_iff_eq, beq_eq_false_iff_ne, ne_eq, gt_iff_lt, ge_iff_le] at h1
    apply G.skip
    apply G.seq
    have hB : BW bs := ⟨hc2⟩
    have hl0 : bs.length < 1099511627776 := by omega
    refine G.rgN 1 tab_ok ok_lawMonotone (hk := ?_)
    refine G.cpX en_MakeNetwork (MakeNetwork_ax bs 6 hB hl0 (by omega) (by omega)) (h := fun y hy => ?_)
    obtain ⟨ps, ks⟩ := y
    simp only at hy
    obtain ⟨hnk, hpo, hks, hpl8⟩ := hy
    refine G.putX (h := ?_)
    refine G.rgC tab_ok ok_lawMonotone (hk := ?_)
    refine G.cellRo 1 0 1 0 rfl rfl rfl rfl (by simp) (by decide) (pureLL_kv _) (roLL_kv _) ?_
    simp only [withH, List.set_cons_succ, List.set_cons_zero]
    have hnw := po_nw hpo
    have hkw := ks_kw hks
    have hW := netOk_w hnk
    have hp12 := hW.pl
    have hk30 := hW.kl
    have hpq : ps.length < 3518437208781 := by omega
    have hkq : ks.length < 2513169434844 := by omega
    apply G.seq
    have hpi : putsO isIn ps ks = whereL isIn ks ks.length := by unfold putsO; rw [if_pos hnk]
    obtain ⟨IL, hIL⟩ : ∃ x, whereL isIn ks ks.length = x := ⟨_, rfl⟩
    rw [hIL] at hpi
    have hill := putsO_len isIn ps ks
    rw [hpi] at hill
    refine G.rg tab_ok ok_lawMonotone (hk := ?_)
    refine G.freeze 4 2 rfl (by simp [look]) ?_
    simp only [List.set_cons_succ, List.set_cons_zero, hri]
    apply G.seq
    apply G.seq
    refine G.rg tab_ok ok_lawMonotone (hk := ?_)
    refine G.fg [0, 3, 4, 5, 25, 26, 27, 28, 29, 30, 31, 32, 33, 34, 35, 36, 37, 38, 39, 40, 41] (hk := ?_)
    refine G.iff (h1 := fun h2 => ?_) (h2 := fun h2 => ?_)
    · try simp only [zz, bne_iff_ne, beq_iff_eq, bne_eq_false_iff_eq, beq_eq_false_iff_ne, ne_eq, gt_iff_lt, ge_iff_le] at h2
      apply G.seq
      refine G.rg tab_ok ok_lawMonotone (hk := ?_)
      refine G.fin tab_ok (hr := ?_)
      rfl
    · try simp only [zz, bne_iff_ne, beq_iff_eq, bne_eq_false_iff_eq, beq_eq_false_iff_ne, ne_eq, gt_iff_lt, ge_iff_le] at h2
      apply G.skip
      apply G.seq
      have hB3 := mkFresh_ok bs 3
      have hFl := mkFresh_len bs 3
      obtain ⟨F, hF⟩ : ∃ x, mkFresh bs 3 = x := ⟨_, rfl⟩
      rw [hF] at hB3 hFl
      have hFl0 : F.length < 1099511627776 := by omega
      obtain ⟨tk, htk⟩ : ∃ x, mkStream F 6 = x := ⟨_, rfl⟩
      have hto : strOk tk = true := by rw [← htk]; exact mkStream_ok F 6
      have htl : tk.length ≤ 100 := by rw [← htk]; exact mkStream_len F 6
      have htm : tk.length ≤ 1048576 := by omega
      have hlb : bs.length ≤ 1099511627776 := by omega
      have ha1 := e_lawAt bs 1 hB hlb (by omega) (by omega)
      have hat := atO_ok hB (k := 1) (by omega)
      obtain ⟨q, hq⟩ : ∃ q : Nat, (atO bs 1).tmod (IL.length : Int) = (q : Int) := ⟨((atO bs 1).tmod (IL.length : Int)).toNat, by have := Int.tmod_nonneg (IL.length : Int) hat.1; omega⟩
      have hqi : q < IL.length := by have := tmod_lt (atO bs 1) (IL.length : Int) (by omega); omega
      have hqj : (q : Int) < (IL.length : Int) := by omega
      have hnz : ¬ (IL.length : Int) = 0 := by omega
      have hwq : IntKind.i64.wrap (q : Int) = (q : Int) := wrap64 (by omega) (by omega)
      have hki := where_in isIn ks ks.length (IL.getD q default) (by rw [hIL]; exact getD_mem0 hqi)
      have hkf := where_is (f := isIn) (ks := ks) (n := ks.length) (IL.getD q default) (by rw [hIL]; exact getD_mem0 hqi)
      obtain ⟨k, hk⟩ : ∃ x, IL.getD q default = x := ⟨_, rfl⟩
      rw [hk] at hki hkf
      have hkf2 : (ks.getD k.toNat default).fr = -1 := by unfold isIn at hkf; simpa using hkf
      have hkx := hks _ (getD_mem0 (l := ks) (k := k.toNat) (by omega))
      have hks2 : strOk (ks.getD k.toNat default).tk = true := by have := hW.lk k.toNat (by omega); unfold linkOk at this; simp only [Bool.and_eq_true] at this; exact this.2
      have hnk2 := feed_netOk hnk hki.1 hki.2 hkf2 (str_app hks2 hto (by omega))
      have kle := feed_KLe (tk := tk) hkf2
      have hfe : feedO ps ks k tk = (ps, feedK ks k tk, true) := by rw [feed_yes hnk hki.1 hki.2]; unfold chk; rw [if_pos hnk2]
      obtain ⟨KL, hKL⟩ : ∃ x, feedK ks k tk = x := ⟨_, rfl⟩
      rw [hKL] at hnk2 kle hfe
      clear hKL hkf hkx hks2 hkf2 hat ha1
      have hkw2 := net_KW hnk2
      have hkq2 : KL.length < 2513169434844 := by have := (netOk_w hnk2).kl; omega
      apply G.joinR
      · intro hk
        refine G.drawL (c := ⟨Try.prog, tab, _, _, _, _, _⟩) mixed tab_ok ok_lawMonotone 19 ?_ rfl
        refine AnyL.gg (n := 13) 6 [0, 1, 2, 4, 5, 9] (h := ?_)
        refine AnyL.fk2 (n := 12) 3 16 (k1 := ?_) (k2 := ?_)
        · skip
          refine AnyL.gg (n := 9) 3 [6, 7, 8] (h := ?_)
          refine AnyL.fk2 (n := 8) 10 16 (k1 := ?_) (k2 := ?_)
          · skip
            refine AnyL.fk2 (n := 7) 11 16 (k1 := ?_) (k2 := ?_)
            · skip
              refine AnyL.fk2 (n := 6) 12 16 (k1 := ?_) (k2 := ?_)
              · skip
                refine AnyL.gg (n := 0) 6 [13, 14, 15, 16, 17, 18] (h := ?_)
                exact AnyL.ln [3, 5, 6] (h := hk)
              · skip
                refine AnyL.gg (n := 0) 6 [12, 13, 14, 15, 17, 18] (h := ?_)
                exact AnyL.ln [3, 5, 6] (h := hk)
            · skip
              refine AnyL.gg (n := 0) 7 [11, 12, 13, 14, 15, 17, 18] (h := ?_)
              exact AnyL.ln [3, 5, 6] (h := hk)
          · skip
            refine AnyL.gg (n := 0) 8 [10, 11, 12, 13, 14, 15, 17, 18] (h := ?_)
            exact AnyL.ln [3, 5, 6] (h := hk)
        · skip
          refine AnyL.gg (n := 0) 12 [3, 6, 7, 8, 10, 11, 12, 13, 14, 15, 17, 18] (h := ?_)
          exact AnyL.ln [3, 5, 6] (h := hk)
      refine G.cellRo2 1 0 0 2 rfl rfl rfl rfl (by simp) (by decide) (pureLL_opv _) (roLL_opv _) ?_
      simp only [withH, List.set_cons_succ, List.set_cons_zero]
      refine G.cellRo2 1 0 1 3 rfl rfl rfl rfl (by simp) (by decide) (pureLL_okv _) (roLL_okv _) ?_
      simp only [withH, List.set_cons_succ, List.set_cons_zero]
      apply G.seq
      apply G.seq
      refine G.rg tab_ok ok_lawMonotone (hk := ?_)
      refine G.iffF (h2 := ?_)
      apply G.skip
      apply G.seq
      obtain ⟨L1, hL1⟩ : ∃ x, leastO ps ks = x := ⟨_, rfl⟩
      obtain ⟨H1, c1, b1⟩ := L1
      refine G.rg tab_ok ok_lawMonotone (hk := ?_)
      refine G.freeze 7 4 rfl (by simp [look]) ?_
      simp only [List.set_cons_succ, List.set_cons_zero, hrov]
      apply G.seq
      obtain ⟨L2, hL2⟩ : ∃ x, leastO ps KL = x := ⟨_, rfl⟩
      obtain ⟨H2, c2, b2⟩ := L2
      refine G.rg tab_ok ok_lawMonotone (hk := ?_)
      refine G.freeze 10 5 rfl (by simp [look]) ?_
      simp only [List.set_cons_succ, List.set_cons_zero, hrov]
      apply G.seq
      refine G.fg [3, 5, 7, 9, 10, 12] (hk := ?_)
      refine G.rg tab_ok ok_lawMonotone (hk := ?_)
      apply G.seq
      cases b1 <;> cases b2
      · skip
        have hff : (false == false) = true := rfl
        have htt : (true == true) = true := rfl
        refine G.rgN 4 tab_ok ok_lawMonotone (hk := ?_)
        refine G.rdN 2 tab_ok ok_lawMonotone (hk := ?_)
        refine G.rdN 2 tab_ok ok_lawMonotone (hk := ?_)
        refine G.rdN 2 tab_ok ok_lawMonotone (hk := ?_)
        refine G.rdN 2 tab_ok ok_lawMonotone (hk := ?_)
        refine G.rdN 2 tab_ok ok_lawMonotone (hk := ?_)
        refine G.rdN 2 tab_ok ok_lawMonotone (hk := ?_)
        refine G.rdN 2 tab_ok ok_lawMonotone (hk := ?_)
        refine G.rdN 2 tab_ok ok_lawMonotone (hk := ?_)
        refine G.rdC tab_ok ok_lawMonotone (hk := ?_)
        refine G.fin tab_ok (hr := ?_)
        rfl
      · skip
        have hff : (false == false) = true := rfl
        have htt : (true == true) = true := rfl
        refine G.rgN 4 tab_ok ok_lawMonotone (hk := ?_)
        refine G.rdN 2 tab_ok ok_lawMonotone (hk := ?_)
        refine G.rdN 2 tab_ok ok_lawMonotone (hk := ?_)
        refine G.rdN 2 tab_ok ok_lawMonotone (hk := ?_)
        refine G.rdN 2 tab_ok ok_lawMonotone (hk := ?_)
        refine G.rdN 2 tab_ok ok_lawMonotone (hk := ?_)
        refine G.rdN 2 tab_ok ok_lawMonotone (hk := ?_)
        refine G.rdN 2 tab_ok ok_lawMonotone (hk := ?_)
        refine G.rdN 2 tab_ok ok_lawMonotone (hk := ?_)
        refine G.rdC tab_ok ok_lawMonotone (hk := ?_)
        refine G.fin tab_ok (hr := ?_)
        rfl
      · skip
        have hff : (false == false) = true := rfl
        have htt : (true == true) = true := rfl
        refine G.rgN 4 tab_ok ok_lawMonotone (hk := ?_)
        refine G.rdN 2 tab_ok ok_lawMonotone (hk := ?_)
        refine G.rdN 2 tab_ok ok_lawMonotone (hk := ?_)
        refine G.rdN 2 tab_ok ok_lawMonotone (hk := ?_)
        refine G.rdN 2 tab_ok ok_lawMonotone (hk := ?_)
        refine G.rdN 2 tab_ok ok_lawMonotone (hk := ?_)
        refine G.rdN 2 tab_ok ok_lawMonotone (hk := ?_)
        refine G.rdN 2 tab_ok ok_lawMonotone (hk := ?_)
        refine G.rdN 2 tab_ok ok_lawMonotone (hk := ?_)
        refine G.rdC tab_ok ok_lawMonotone (hk := ?_)
        refine G.fin tab_ok (hr := ?_)
        rfl
      · skip
        have w1 := least_w (ps := ps) (ks := ks) (by rw [hL1])
        rw [hL1] at w1
        have w2 := least_w (ps := ps) (ks := KL) (by rw [hL2])
        rw [hL2] at w2
        simp only at w1 w2
        have hle := kle.least w1 w2
        have hbl := below_yes hle w2.str
        have hbo := bel_yes kle w1 w2
        have hz1 := all_LW w1.str
        have hz2 := all_LW w2.str
        have hx1 := w1.len
        have hx2 : H2.length = ks.length := w2.len.trans kle.len.symm
        have hy1 : H1.length < 5864062014805 := by omega
        have hy2 : H2.length < 5864062014805 := by omega
        clear hx1 hx2
        have hff : (false == false) = true := rfl
        have htt : (true == true) = true := rfl
        refine G.rgN 4 tab_ok ok_lawMonotone (hk := ?_)
        refine G.rdN 2 tab_ok ok_lawMonotone (hk := ?_)
        refine G.rdN 2 tab_ok ok_lawMonotone (hk := ?_)
        refine G.rdN 2 tab_ok ok_lawMonotone (hk := ?_)
        refine G.rdN 2 tab_ok ok_lawMonotone (hk := ?_)
        refine G.rdN 2 tab_ok ok_lawMonotone (hk := ?_)
        refine G.rdN 2 tab_ok ok_lawMonotone (hk := ?_)
        refine G.rdN 2 tab_ok ok_lawMonotone (hk := ?_)
        refine G.rdN 2 tab_ok ok_lawMonotone (hk := ?_)
        refine G.rdC tab_ok ok_lawMonotone (hk := ?_)
        refine G.fin tab_ok (hr := ?_)
        rfl
end Go.Proofs.Ytimgfinlbhodhaa.Ab
