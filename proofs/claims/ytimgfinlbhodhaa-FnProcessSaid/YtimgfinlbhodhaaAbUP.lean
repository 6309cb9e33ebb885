/- Walks of functions of the program: what each answers, for all arguments that meet its conditions. -/
import Derived.Test.YtimgfinlbhodhaaAbHand
import Derived.Test.YtimgfinlbhodhaaAbGF2
import Derived.Test.YtimgfinlbhodhaaAbC5
import Derived.Test.YtimgfinlbhodhaaAbT1
import Derived.Test.YtimgfinlbhodhaaAbP43
import Derived.Test.YtimgfinlbhodhaaFwGf
import Derived.Test.YtimgfinlbhodhaaAbP6w
import Derived.Test.YtimgfinlbhodhaaAbP35
import Derived.Test.YtimgfinlbhodhaaAbIT
import Derived.Test.YtimgfinlbhodhaaAbMA1
import Derived.Test.YtimgfinlbhodhaaAbAutoI
namespace Go.Proofs.Ytimgfinlbhodhaa.Ab
open Go
set_option linter.unusedVariables false
set_option linter.unusedSimpArgs false
set_option maxHeartbeats 4000000
theorem ok_lawProcess : Kn.ok Try.prog (kof [(15, q_lawAt), (23, q_lawFresh), (30, q_makeStream), (31, q_implRunProcess), (26, q_lawBelow), (32, q_implNewActor), (33, q_implWantOf), (34, q_implStepActor), (35, q_ints), (28, q_makeEqual)]) := kof_cons k_lawAt (kof_cons k_lawFresh (kof_cons k_makeStream (kof_cons k_implRunProcess (kof_cons k_lawBelow (kof_cons k_implNewActor (kof_cons k_implWantOf (kof_cons k_implStepActor (kof_cons k_ints (kof_cons k_makeEqual ((kof_nil _)))))))))))
theorem en_MakeProgramF : Enters Try.prog 29 := enters_of Try.func29 rfl rfl
theorem lawProcess_ac (bs : List Int) (hc1 : bs.length < 140737488355328) (hc2 : ∀ x ∈ bs, 0 ≤ x ∧ x ≤ 255) : AC Try.prog 5 [.row false 1 (bs.map bv)] (.bool true) := by
  have e_lawAt := e_lawAt
  have e_lawFresh := e_lawFresh
  have e_makeStream := e_makeStream
  have e_implRunProcess := e_implRunProcess
  have e_lawBelow := e_lawBelow
  have e_implNewActor := e_implNewActor
  have e_implWantOf := e_implWantOf
  have e_implStepActor := e_implStepActor
  have e_ints := e_ints
  have e_makeEqual := e_makeEqual
  have hivl := ivL_eq
  have hro := roLL_ovL
  have hpov := pureLL_ovL
  have hnov := noLoanLL_ovL
  have hrov := roLL_ovL
  have hriv := roLL_ivL
  have hpiv := pureLL_ivL
  have hri := roLL_iv
  have hrb := roLL_bv
  have hivl := ivL_eq
  refine AC.of tab_ok Try.func5 rfl (Nat.le_of_ble_eq_true rfl) fun w0 S0 => ?_
  change G _ _ ⟨[(0, .row false 1 (bs.map bv))], [], 235⟩
  apply G.seq
  refine G.rg tab_ok ok_lawProcess (hk := ?_)
  apply G.seq
  apply G.seq
  refine G.rg tab_ok ok_lawProcess (hk := ?_)
  refine G.iff (h1 := fun h1 => ?_) (h2 := fun h1 => ?_)
  · try simp only [zz, bne_iff_ne, beq_iff_eq, bne_eq_false_iff_eq, beq_eq_false_iff_ne, ne_eq, gt_iff_lt, ge_iff_le] at h1
    apply G.seq
    refine G.rg tab_ok ok_lawProcess (hk := ?_)
    refine G.fin tab_ok (hr := ?_)
    rfl
  · try simp only [zz, bne_iff_ne, beq_iff_eq, bne_eq_false_iff_eq, beq_eq_false_iff_ne, ne_eq, gt_iff_lt, ge_iff_le] at h1
    apply G.skip
    apply G.seq
    have hB : BW bs := ⟨hc2⟩
    have hl0 : bs.length < 1099511627776 := by omega
    have hlb : bs.length ≤ 1099511627776 := by omega
    clear hc1 hc2
    have ha1 := e_lawAt bs 1 hB hlb (by omega) (by omega)
    have ha2 := e_lawAt bs 2 hB hlb (by omega) (by omega)
    have hat1 := atO_ok hB (k := 1) (by omega)
    have hat2 := atO_ok hB (k := 2) (by omega)
    have ht1 := Int.tmod_nonneg 3 hat1.1
    have ht2 := Int.tmod_lt_of_pos (atO bs 1) (b := 3) (by decide)
    have ht3 := Int.tmod_nonneg 4 hat2.1
    have ht4 := Int.tmod_lt_of_pos (atO bs 2) (b := 4) (by decide)
    have hw1 : IntKind.i64.wrap ((atO bs 1).tmod 3) = (atO bs 1).tmod 3 := wrap64 (by omega) (by omega)
    obtain ⟨o, ho⟩ : ∃ x, (atO bs 2).tmod 4 = x := ⟨_, rfl⟩
    rw [ho] at ht3 ht4
    have hw2 : IntKind.i64.wrap o = o := wrap64 (by omega) (by omega)
    obtain ⟨i, hi⟩ : ∃ x, 1 + (atO bs 1).tmod 3 = x := ⟨_, rfl⟩
    have hi1 : 1 ≤ i := by omega
    have hi3 : i ≤ 3 := by omega
    have hi0 : 0 ≤ i := by omega
    have ho0 : 0 ≤ o := ht3
    have hw3 : IntKind.i64.wrap i = i := wrap64 (by omega) (by omega)
    clear hat1 hat2
    refine G.rgN 8 tab_ok ok_lawProcess (hk := ?_)
    refine G.cpX en_MakeProgramF (MakeProgramF_ax bs i o hB hl0 hi1 hi3 ht3 (by omega)) (h := fun l hy => ?_)
    obtain ⟨hc1, hPf⟩ := hy
    refine G.putX (h := ?_)
    refine G.rgC tab_ok ok_lawProcess (hk := ?_)
    refine G.cellRo 1 0 2 0 rfl rfl rfl rfl (by simp) (by decide) (pureLL_insv _) (roLL_insv _) ?_
    simp only [withH, List.set_cons_succ, List.set_cons_zero]
    have hl24 := progOk_len hc1
    clear ha1 ha2 ht1 ht2 hw1 hw2 hw3 ho hi
    apply G.seq
    refine G.rg tab_ok ok_lawProcess (hk := ?_)
    apply G.seq
    refine G.rg tab_ok ok_lawProcess (hk := ?_)
    apply G.seq
    apply G.seq
    refine G.rg tab_ok ok_lawProcess (hk := ?_)
    apply G.block
    refine G.nm [0, 3, 4, 5, 6] (h := ?_)
    refine G.loopX (fun j : Nat => ⟨[(0, .row false 1 (bs.map bv)), (3, .ptr 0 0 0), (4, .sl 1 0 j), (5, .sl 2 0 j), (6, .int .i64 j)], [some (3, [[.int .i64 i, .int .i64 o, .row false 4 (l.map insv)]]), some (1, (inL bs j).map ivL), some (1, (lessL bs j).map ivL)], 235⟩) (fun j => (j : Int) ≤ i) (fun j => i.toNat - j) (0) (by omega) (by simp [inL, lessL]) ?_
    intro j hj J hJ
    have hwj1 : IntKind.i64.wrap ((j : Int) + 1) = ((j + 1 : Nat) : Int) := by rw [wrap64 (by omega) (by omega)]; omega
    have hil := inL_len bs j
    have hll := lessL_len bs j
    have hit : List.take j ((inL bs j).map ivL) = (inL bs j).map ivL := List.take_of_length_le (by simp [inL_len])
    have hlt : List.take j ((lessL bs j).map ivL) = (lessL bs j).map ivL := List.take_of_length_le (by simp [lessL_len])
    have hj4 : j ≤ 3 := by omega
    have hq1 : ((j + 1 : Nat) : Int) ≤ 4611686018427387904 := by omega
    have hq2 : (j + 1) * 24 ≤ 70368744177664 := by omega
    apply G.seq
    apply G.seq
    refine G.rg tab_ok ok_lawProcess (hk := ?_)
    refine G.iff (h1 := fun h2 => ?_) (h2 := fun h2 => ?_)
    · try simp only [zz, bne_iff_ne, beq_iff_eq, bne_eq_false_iff_eq, beq_eq_false_iff_ne, ne_eq, gt_iff_lt, ge_iff_le] at h2
      apply G.skip
      apply G.seq
      apply G.block
      apply G.seq
      have hj3 : j < 3 := by omega
      have hwj : IntKind.i64.wrap (3 + (j : Int)) = 3 + (j : Int) := wrap64 (by omega) (by omega)
      have hBF := mkFresh_ok bs (3 + (j : Int))
      have hFl := mkFresh_len bs (3 + (j : Int))
      have heF := e_lawFresh bs (3 + (j : Int)) hB hl0 (by omega) (by omega)
      obtain ⟨F, hF⟩ : ∃ x, mkFresh bs (3 + (j : Int)) = x := ⟨_, rfl⟩
      have hSe : mkStream F 10 = inS bs j := by rw [← hF]; rfl
      rw [hF] at hBF hFl heF
      have hFl0 : F.length < 1099511627776 := by omega
      have hap1 := inL_snoc bs j
      have hap2 := lessL_snoc bs j
      have hSl := inS_len bs j
      have hlN : lessN bs j < (inS bs j).length + 1 := Nat.mod_lt _ (by omega)
      have hlS : lessS bs j = (inS bs j).take (lessN bs j) := rfl
      have hlE : lessN bs j = (atO bs (5 + (j : Int))).toNat % ((inS bs j).length + 1) := rfl
      obtain ⟨S, hS⟩ : ∃ x, inS bs j = x := ⟨_, rfl⟩
      obtain ⟨c, hc⟩ : ∃ x, lessN bs j = x := ⟨_, rfl⟩
      rw [hS] at hSe hap1 hSl hlN hlS hlE
      rw [hc] at hlN hlS hlE
      rw [hlS] at hap2
      clear hF hS hc hlS
      refine G.rg tab_ok ok_lawProcess (hk := ?_)
      refine G.freeze 7 4 rfl (by simp [look]) ?_
      simp only [List.set_cons_succ, List.set_cons_zero, hri]
      apply G.seq
      refine G.rg tab_ok ok_lawProcess (hk := ?_)
      have hw5 : IntKind.i64.wrap (5 + (j : Int)) = 5 + (j : Int) := wrap64 (by omega) (by omega)
      have ha5 := e_lawAt bs (5 + (j : Int)) hB hlb (by omega) (by omega)
      have hat5 := atO_ok hB (k := 5 + (j : Int)) (by omega)
      have hwS : IntKind.i64.wrap ((S.length : Int) + 1) = ((S.length + 1 : Nat) : Int) := by rw [wrap64 (by omega) (by omega)]; omega
      have hSz : ¬ ((S.length + 1 : Nat) : Int) = 0 := by omega
      have hm : (atO bs (5 + (j : Int))).tmod ((S.length + 1 : Nat) : Int) = (c : Int) := by
        obtain ⟨a, ha⟩ : ∃ a : Nat, atO bs (5 + (j : Int)) = (a : Int) := ⟨(atO bs (5 + (j : Int))).toNat, by omega⟩
        rw [hlE, ha, Int.toNat_natCast]; rfl
      have hcw : IntKind.i64.wrap (c : Int) = (c : Int) := wrap64 (by omega) (by omega)
      have hc0 : ¬ (S.length < c) := by omega
      have hcle : c ≤ S.length := by omega
      have hcm : min c S.length = c := by omega
      have hct : List.take c (S.map iv) = (S.take c).map iv := (List.map_take ..).symm
      have hcl2 : (S.take c).length = c := by rw [List.length_take]; exact hcm
      clear hlE
      refine G.rg tab_ok ok_lawProcess (hk := ?_)
      apply G.blk
      refine G.rg tab_ok ok_lawProcess (hk := ?_)
      refine G.nm [0, 3, 4, 5, 6] (h := ?_)
      exact G.upto (hJ (j + 1) (by omega) (by omega)) (by rw [← hap1, ← hap2]; simp [ivL, hil, hll])
    · try simp only [zz, bne_iff_ne, beq_iff_eq, bne_eq_false_iff_eq, beq_eq_false_iff_ne, ne_eq, gt_iff_lt, ge_iff_le] at h2
      refine G.exit rfl ?_
      apply G.seq
      obtain rfl : j = i.toNat := by omega
      have hIn : ((i.toNat : Nat) : Int) = i := by omega
      have hc2 : IW i (inL bs i.toNat) := inL_IW hIn
      have hls : IW i (lessL bs i.toNat) := lessL_IW hIn
      have hle := lessL_le bs i.toNat
      have h10 := inL_ten bs i.toNat 0
      have hil := inL_len bs i.toNat
      have hll := lessL_len bs i.toNat
      obtain ⟨ins, hins⟩ : ∃ x, inL bs i.toNat = x := ⟨_, rfl⟩
      obtain ⟨less, hless⟩ : ∃ x, lessL bs i.toNat = x := ⟨_, rfl⟩
      rw [hins] at hc2 hle h10 hil ⊢
      rw [hless] at hls hle hll ⊢
      rw [← hil]
      refine G.freeze 4 1 rfl (by simp [look]) ?_
      simp only [List.set_cons_succ, List.set_cons_zero, hriv]
      rw [hil, ← hll]
      refine G.freeze 5 2 rfl (by simp [look]) ?_
      simp only [List.set_cons_succ, List.set_cons_zero, hriv]
      have ha9 := e_lawAt bs 9 hB hlb (by omega) (by omega)
      have hat9 := atO_ok hB (k := 9) (by omega)
      obtain ⟨fuel, hfu⟩ : ∃ x, atO bs 9 * 4 = x := ⟨_, rfl⟩
      have hf0 : 0 ≤ fuel := by omega
      have hf1 : fuel ≤ 3000 := by omega
      have hwf : IntKind.i64.wrap fuel = fuel := wrap64 (by omega) (by omega)
      have hlw1 : LW ins := fun r hr => by have := strLen (hc2.it r hr); omega
      have hlw2 : LW less := fun r hr => by have := strLen (hls.it r hr); omega
      have hq1 : ins.length < 5864062014805 := by omega
      have hq2 : less.length < 5864062014805 := by omega
      have hlb2 : l.length < 4398046511104 := by omega
      have hrx := run_yes hc1 hc2 hf0 hf1
      have hry := run_yes hc1 hls hf0 hf1
      have hbel := run_less hc1 hc2 hle fuel.toNat
      have hPR := run_PW hc1 hc2 fuel.toNat _ (PW.init hc1 hc2)
      have hPY := run_PW hc1 hls fuel.toNat _ (PW.init hc1 hls)
      obtain ⟨R, hR⟩ : ∃ x, goP l ins fuel.toNat (ps0 i o) = x := ⟨_, rfl⟩
      obtain ⟨Y, hY⟩ : ∃ x, goP l less fuel.toNat (ps0 i o) = x := ⟨_, rfl⟩
      rw [hR] at hrx hbel hPR
      rw [hY] at hry hbel hPY
      have hol := hPR.ol
      have hoy := hPY.ol
      have hou := hPR.ul
      obtain ⟨⟨xpc, xrs, xo, xu⟩, xw, xq⟩ := R
      obtain ⟨⟨ypc, yrs, yo, yu⟩, yw, yq⟩ := Y
      simp only at hrx hry hbel hol hoy hou
      have hz1 : ((xo.length : Int) == o) = true := by rw [beq_iff_eq]; exact hol
      have hz2 : ((yo.length : Int) == o) = true := by rw [beq_iff_eq]; exact hoy
      have hz3 : ((xu.length : Int) == i) = true := by rw [beq_iff_eq]; exact hou
      have hLr : LW xo := fun r hr => by have := hPR.ob r hr; omega
      have hLy : LW yo := fun r hr => by have := hPY.ob r hr; omega
      have hLr2 : xo.length < 5864062014805 := by omega
      have hLy2 : yo.length < 5864062014805 := by omega
      have hLu : xu.length < 17592186044416 := by omega
      clear hil hll hol hoy hou hat9 hY hPY
      refine G.rg tab_ok ok_lawProcess (hk := ?_)
      apply G.seq
      refine G.rg tab_ok ok_lawProcess (hk := ?_)
      refine G.freeze 9 3 rfl (by simp [look]) ?_
      simp only [List.set_cons_succ, List.set_cons_zero, hrov]
      refine G.freeze 10 4 rfl (by simp [look]) ?_
      simp only [List.set_cons_succ, List.set_cons_zero, hri]
      apply G.seq
      refine G.rg tab_ok ok_lawProcess (hk := ?_)
      refine G.freeze 13 5 rfl (by simp [look]) ?_
      simp only [List.set_cons_succ, List.set_cons_zero, hrov]
      refine G.freeze 14 6 rfl (by simp [look]) ?_
      simp only [List.set_cons_succ, List.set_cons_zero, hri]
      apply G.seq
      apply G.seq
      apply G.viaX (st' := ⟨[(3, .ptr 0 0 0), (4, .row false 1 (ins.map ivL)), (8, .int .i64 fuel), (9, .row false 1 (xo.map ivL)), (10, .row false 1 (xu.map iv)), (130, .bool false)], [some (3, [[.int .i64 i, .int .i64 o, .row false 4 (l.map insv)]]), none, none, none, none, none, none], 235⟩)
      · intro hvia15
        rcases (show yw = 1 ∨ (¬ yw = 1 ∧ xw = 1) ∨ (¬ yw = 1 ∧ ¬ xw = 1) by omega) with c1 | ⟨c1, c2⟩ | ⟨c1, c2⟩
        · skip
          have d1 : (yw == 1) = true := beq_iff_eq.2 c1
          clear c1
          refine G.rgN 3 tab_ok ok_lawProcess (hk := ?_)
          refine G.rdN 2 tab_ok ok_lawProcess (hk := ?_)
          refine G.rdN 2 tab_ok ok_lawProcess (hk := ?_)
          refine G.rdN 2 tab_ok ok_lawProcess (hk := ?_)
          refine G.rdN 2 tab_ok ok_lawProcess (hk := ?_)
          refine G.rdN 2 tab_ok ok_lawProcess (hk := ?_)
          refine G.rdN 2 tab_ok ok_lawProcess (hk := ?_)
          refine G.rdN 2 tab_ok ok_lawProcess (hk := ?_)
          refine G.rdN 2 tab_ok ok_lawProcess (hk := ?_)
          refine G.rdN 2 tab_ok ok_lawProcess (hk := ?_)
          refine G.rdN 2 tab_ok ok_lawProcess (hk := ?_)
          refine G.rdN 2 tab_ok ok_lawProcess (hk := ?_)
          refine G.rdN 2 tab_ok ok_lawProcess (hk := ?_)
          refine G.rdN 2 tab_ok ok_lawProcess (hk := ?_)
          refine G.rdN 2 tab_ok ok_lawProcess (hk := ?_)
          refine G.rdN 2 tab_ok ok_lawProcess (hk := ?_)
          refine G.rdN 2 tab_ok ok_lawProcess (hk := ?_)
          refine G.rdN 2 tab_ok ok_lawProcess (hk := ?_)
          refine G.rdN 2 tab_ok ok_lawProcess (hk := ?_)
          refine G.rdC tab_ok ok_lawProcess (hk := ?_)
          refine G.fg [3, 4, 8, 9, 10, 130] (hk := ?_)
          exact G.meet hvia15 rfl
        · skip
          have d1 : (yw == 1) = false := beq_eq_false_iff_ne.2 c1
          have d2 : (xw == 1) = true := beq_iff_eq.2 c2
          clear c1 c2
          refine G.rgN 3 tab_ok ok_lawProcess (hk := ?_)
          refine G.rdN 2 tab_ok ok_lawProcess (hk := ?_)
          refine G.rdN 2 tab_ok ok_lawProcess (hk := ?_)
          refine G.rdN 2 tab_ok ok_lawProcess (hk := ?_)
          refine G.rdN 2 tab_ok ok_lawProcess (hk := ?_)
          refine G.rdN 2 tab_ok ok_lawProcess (hk := ?_)
          refine G.rdN 2 tab_ok ok_lawProcess (hk := ?_)
          refine G.rdN 2 tab_ok ok_lawProcess (hk := ?_)
          refine G.rdN 2 tab_ok ok_lawProcess (hk := ?_)
          refine G.rdN 2 tab_ok ok_lawProcess (hk := ?_)
          refine G.rdN 2 tab_ok ok_lawProcess (hk := ?_)
          refine G.rdN 2 tab_ok ok_lawProcess (hk := ?_)
          refine G.rdN 2 tab_ok ok_lawProcess (hk := ?_)
          refine G.rdN 2 tab_ok ok_lawProcess (hk := ?_)
          refine G.rdN 2 tab_ok ok_lawProcess (hk := ?_)
          refine G.rdN 2 tab_ok ok_lawProcess (hk := ?_)
          refine G.rdN 2 tab_ok ok_lawProcess (hk := ?_)
          refine G.rdN 2 tab_ok ok_lawProcess (hk := ?_)
          refine G.rdN 2 tab_ok ok_lawProcess (hk := ?_)
          refine G.rdC tab_ok ok_lawProcess (hk := ?_)
          refine G.fg [3, 4, 8, 9, 10, 130] (hk := ?_)
          exact G.meet hvia15 rfl
        · skip
          have d1 : (yw == 1) = false := beq_eq_false_iff_ne.2 c1
          have d2 : (xw == 1) = false := beq_eq_false_iff_ne.2 c2
          clear c1 c2
          refine G.rgN 3 tab_ok ok_lawProcess (hk := ?_)
          refine G.rdN 2 tab_ok ok_lawProcess (hk := ?_)
          refine G.rdN 2 tab_ok ok_lawProcess (hk := ?_)
          refine G.rdN 2 tab_ok ok_lawProcess (hk := ?_)
          refine G.rdN 2 tab_ok ok_lawProcess (hk := ?_)
          refine G.rdN 2 tab_ok ok_lawProcess (hk := ?_)
          refine G.rdN 2 tab_ok ok_lawProcess (hk := ?_)
          refine G.rdN 2 tab_ok ok_lawProcess (hk := ?_)
          refine G.rdN 2 tab_ok ok_lawProcess (hk := ?_)
          refine G.rdN 2 tab_ok ok_lawProcess (hk := ?_)
          refine G.rdN 2 tab_ok ok_lawProcess (hk := ?_)
          refine G.rdN 2 tab_ok ok_lawProcess (hk := ?_)
          refine G.rdN 2 tab_ok ok_lawProcess (hk := ?_)
          refine G.rdN 2 tab_ok ok_lawProcess (hk := ?_)
          refine G.rdN 2 tab_ok ok_lawProcess (hk := ?_)
          refine G.rdN 2 tab_ok ok_lawProcess (hk := ?_)
          refine G.rdN 2 tab_ok ok_lawProcess (hk := ?_)
          refine G.rdN 2 tab_ok ok_lawProcess (hk := ?_)
          refine G.rdN 2 tab_ok ok_lawProcess (hk := ?_)
          refine G.rdC tab_ok ok_lawProcess (hk := ?_)
          refine G.fg [3, 4, 8, 9, 10, 130] (hk := ?_)
          exact G.meet hvia15 rfl
      · skip
        refine G.iffF (h2 := ?_)
        apply G.skip
        apply G.seq
        have hr0 : regs0 i o l = [0, 0, 0, 0] := by unfold regs0; rw [hc1]; rfl
        refine G.rg tab_ok ok_lawProcess (hk := ?_)
        apply G.seq
        have hr0 : regs0 i o l = [0, 0, 0, 0] := by unfold regs0; rw [hc1]; rfl
        have hb1 : i ≤ 4611686018427387904 := by omega
        have hb2 : 8 * i ≤ 140737488355328 := by omega
        have hb3 : o ≤ 4611686018427387904 := by omega
        have hb4 : 24 * o ≤ 140737488355328 := by omega
        refine G.rg tab_ok ok_lawProcess (hk := ?_)
        refine G.nilBlk 9 o.toNat rfl ?_
        apply G.seq
        refine G.rg tab_ok ok_lawProcess (hk := ?_)
        apply G.seq
        apply G.seq
        refine G.rg tab_ok ok_lawProcess (hk := ?_)
        apply G.block
        refine G.nm [3, 4, 8, 9, 10, 17, 18, 19, 20] (h := ?_)
        refine G.loopX (fun x : PS × Nat => ⟨[(3, .ptr 0 0 0), (4, .row false 1 (ins.map ivL)), (8, .int .i64 fuel), (9, .row false 1 (xo.map ivL)), (10, .row false 1 (xu.map iv)), (17, .ptr 1 0 0), (18, .sl 2 0 x.1.outs.length), (19, .sl 3 0 x.1.used.length), (20, .int .i64 (fuel - (x.2 : Nat)))], [some (3, [[.int .i64 i, .int .i64 o, .row false 4 (l.map insv)]]), some (2, [[.int .i64 x.1.pc, .sl 4 0 x.1.rs.length]]), some (1, x.1.outs.map ovL), some (1, x.1.used.map iv), some (1, x.1.rs.map iv)], 235⟩) (fun x => (PW i o l ins x.1 ∧ FwI x.1) ∧ goP l ins x.2 x.1 = (⟨xpc, xrs, xo, xu⟩, xw, xq) ∧ (x.2 : Int) ≤ fuel) (fun x => x.2) ((ps0 i o, fuel.toNat)) (⟨⟨PW.init hc1 hc2, fw_init i o⟩, hR, by simp only; omega⟩) (by simp [ps0, nilsL, iv]; omega) ?_
        intro x hx J hJ
        obtain ⟨s, n⟩ := x
        simp only at hx ⊢
        obtain ⟨⟨hw, hfw⟩, hg, hn⟩ := hx
        obtain ⟨hpc0, hpc1⟩ := hw.pc0
        have hul := hw.ul
        have hol := hw.ol
        have hil := hc2.il
        have hsh := fw_short hi1 hw hl24 hfw h10
        have hwo := want_yes hc1 hw.act
        have hrs4 : s.rs.length = 4 := actOk_len hw.act
        have hrs5 : s.rs.length < 17592186044416 := by omega
        clear hrs4
        obtain ⟨p, hp⟩ : ∃ p, (wantK l s.pc).2 = p := ⟨_, rfl⟩
        have hcase : (wantK l s.pc).1 = 0 ∨ (wantK l s.pc).1 = 1 ∨ ((wantK l s.pc).1 = 2 ∧ s.used.getD p.toNat default = ((ins.getD p.toNat default).length : Int)) ∨ ((wantK l s.pc).1 = 2 ∧ ¬ s.used.getD p.toNat default = ((ins.getD p.toNat default).length : Int)) ∨
            ((wantK l s.pc).1 = 3 ∧ ¬ (s.outs.getD p.toNat default).length = 400) := by
          rcases wantK_cases l s.pc with h | h | h | h
          · exact .inl h
          · exact .inr (.inl h)
          · by_cases e : s.used.getD p.toNat default = ((ins.getD p.toNat default).length : Int)
            · exact .inr (.inr (.inl ⟨h, e⟩))
            · exact .inr (.inr (.inr (.inl ⟨h, e⟩)))
          · exact .inr (.inr (.inr (.inr ⟨h, by have := hsh p.toNat; omega⟩)))
        rcases hcase with c0 | c0 | ⟨c0, c1⟩ | ⟨c0, c1⟩ | ⟨c0, c1⟩
        · skip
          have hst : stopP l ins s = true := by simp [stopP, wP, c0]
          apply G.seq
          apply G.seq
          refine G.rg tab_ok ok_lawProcess (hk := ?_)
          refine G.iff (h1 := fun h4 => ?_) (h2 := fun h4 => ?_)
          · try simp only [zz, bne_iff_ne, beq_iff_eq, bne_eq_false_iff_eq, beq_eq_false_iff_ne, ne_eq, gt_iff_lt, ge_iff_le] at h4
            apply G.skip
            apply G.seq
            apply G.block
            apply G.seq
            have hn0 : n ≠ 0 := by omega
            have hwn2 : IntKind.i64.wrap (fuel - ((n - 1 : Nat) : Int)) = fuel - ((n - 1 : Nat) : Int) := wrap64 (by omega) (by omega)
            have hn1 : fuel - (n : Int) + 1 = fuel - ((n - 1 : Nat) : Int) := by omega
            have hwn : IntKind.i64.wrap (fuel - (n : Int) + 1) = fuel - (n : Int) + 1 := wrap64 (by omega) (by omega)
            refine G.rg tab_ok ok_lawProcess (hk := ?_)
            apply G.seq
            refine G.rg tab_ok ok_lawProcess (hk := ?_)
            apply G.seq
            apply G.seq
            refine G.rgN 3 tab_ok ok_lawProcess (hk := ?_)
            refine G.rdN 2 tab_ok ok_lawProcess (hk := ?_)
            refine G.rdN 2 tab_ok ok_lawProcess (hk := ?_)
            refine G.rdN 2 tab_ok ok_lawProcess (hk := ?_)
            refine G.rdC tab_ok ok_lawProcess (hk := ?_)
            refine G.iffT (h1 := ?_)
            refine G.exit rfl ?_
            apply G.seq
            have hR1 : s = ⟨xpc, xrs, xo, xu⟩ := by have := goP_end (l := l) (ins := ins) (n := n) (s := s) (by first | exact .inl hst | exact .inr (by omega)); rw [hg] at this; exact this.symm
            have hRo : s.outs = xo := by rw [hR1]
            have hRu : s.used = xu := by rw [hR1]
            have hRl : LW s.outs := by rw [hRo]; exact hLr
            have hRm : s.outs.length < 5864062014805 := by rw [hRo]; exact hLr2
            have hRn : s.used.length < 17592186044416 := by rw [hRu]; exact hLu
            have hd1 : decide (s.used = xu) = true := decide_eq_true hRu
            have hd2 : decide (s.outs = xo) = true := decide_eq_true hRo
            clear hR1 hRo hRu
            refine G.freeze 18 2 rfl (by simp [look]) ?_
            simp only [List.set_cons_succ, List.set_cons_zero, hrov]
            refine G.freeze 19 3 rfl (by simp [look]) ?_
            simp only [List.set_cons_succ, List.set_cons_zero, hri]
            refine G.rgN 4 tab_ok ok_lawProcess (hk := ?_)
            refine G.rdN 2 tab_ok ok_lawProcess (hk := ?_)
            refine G.rdC tab_ok ok_lawProcess (hk := ?_)
            refine G.fin tab_ok (hr := ?_)
            rfl
          · try simp only [zz, bne_iff_ne, beq_iff_eq, bne_eq_false_iff_eq, beq_eq_false_iff_ne, ne_eq, gt_iff_lt, ge_iff_le] at h4
            refine G.exit rfl ?_
            apply G.seq
            have hR1 : s = ⟨xpc, xrs, xo, xu⟩ := by have := goP_end (l := l) (ins := ins) (n := n) (s := s) (by first | exact .inl hst | exact .inr (by omega)); rw [hg] at this; exact this.symm
            have hRo : s.outs = xo := by rw [hR1]
            have hRu : s.used = xu := by rw [hR1]
            have hRl : LW s.outs := by rw [hRo]; exact hLr
            have hRm : s.outs.length < 5864062014805 := by rw [hRo]; exact hLr2
            have hRn : s.used.length < 17592186044416 := by rw [hRu]; exact hLu
            have hd1 : decide (s.used = xu) = true := decide_eq_true hRu
            have hd2 : decide (s.outs = xo) = true := decide_eq_true hRo
            clear hR1 hRo hRu
            refine G.freeze 18 2 rfl (by simp [look]) ?_
            simp only [List.set_cons_succ, List.set_cons_zero, hrov]
            refine G.freeze 19 3 rfl (by simp [look]) ?_
            simp only [List.set_cons_succ, List.set_cons_zero, hri]
            refine G.rgN 4 tab_ok ok_lawProcess (hk := ?_)
            refine G.rdN 2 tab_ok ok_lawProcess (hk := ?_)
            refine G.rdC tab_ok ok_lawProcess (hk := ?_)
            refine G.fin tab_ok (hr := ?_)
            rfl
        · skip
          have hp0 : p = 0 := by have := (wantK_one c0).2.2; rw [hp] at this; exact this
          have hp00 : ¬ p < 0 := by omega
          have hp22 : ¬ p > 2 := by omega
          have hst : stopP l ins s = false := by simp [stopP, wP, c0]
          have hn0 : ¬ (wP l s).1 = 0 := by show ¬ (wantK l s.pc).1 = 0; rw [c0]; decide
          obtain ⟨hreg, hop⟩ := hw.reg hc1 hn0
          have hlt := hw.lt hn0
          have hreg2 : RegOk (l.getD s.pc.toNat default) s.rs := hreg
          have hso := step_yes (i := i) (o := o) (l := l) (pc := s.pc) (rs := s.rs) (token := 0) hc1 hw.act (by rw [c0]; decide) (by rw [c0]; intro h; cases h)
          have hsl1 : s.rs.length ≤ (stepRs (l.getD s.pc.toNat default) s.rs 0).length := by rw [stepRs_len]; exact Nat.le_refl _
          apply G.seq
          apply G.seq
          refine G.rg tab_ok ok_lawProcess (hk := ?_)
          refine G.iff (h1 := fun h6 => ?_) (h2 := fun h6 => ?_)
          · try simp only [zz, bne_iff_ne, beq_iff_eq, bne_eq_false_iff_eq, beq_eq_false_iff_ne, ne_eq, gt_iff_lt, ge_iff_le] at h6
            apply G.skip
            apply G.seq
            apply G.block
            apply G.seq
            have hn0 : n ≠ 0 := by omega
            have hwn2 : IntKind.i64.wrap (fuel - ((n - 1 : Nat) : Int)) = fuel - ((n - 1 : Nat) : Int) := wrap64 (by omega) (by omega)
            have hn1 : fuel - (n : Int) + 1 = fuel - ((n - 1 : Nat) : Int) := by omega
            have hwn : IntKind.i64.wrap (fuel - (n : Int) + 1) = fuel - (n : Int) + 1 := wrap64 (by omega) (by omega)
            refine G.rg tab_ok ok_lawProcess (hk := ?_)
            apply G.seq
            refine G.rg tab_ok ok_lawProcess (hk := ?_)
            apply G.seq
            apply G.seq
            refine G.rgN 3 tab_ok ok_lawProcess (hk := ?_)
            refine G.rdN 2 tab_ok ok_lawProcess (hk := ?_)
            refine G.rdN 2 tab_ok ok_lawProcess (hk := ?_)
            refine G.rdN 2 tab_ok ok_lawProcess (hk := ?_)
            refine G.rdC tab_ok ok_lawProcess (hk := ?_)
            refine G.iffF (h2 := ?_)
            apply G.skip
            apply G.seq
            apply G.seq
            refine G.rg tab_ok ok_lawProcess (hk := ?_)
            refine G.iffF (h2 := ?_)
            apply G.skip
            apply G.seq
            refine G.rg tab_ok ok_lawProcess (hk := ?_)
            apply G.seq
            apply G.seq
            refine G.fg [3, 4, 8, 9, 10, 17, 18, 19, 20, 21, 22, 24, 25, 26] (hk := ?_)
            refine G.rgN 3 tab_ok ok_lawProcess (hk := ?_)
            refine G.rdN 2 tab_ok ok_lawProcess (hk := ?_)
            refine G.rdN 2 tab_ok ok_lawProcess (hk := ?_)
            refine G.rdN 2 tab_ok ok_lawProcess (hk := ?_)
            refine G.rdN 2 tab_ok ok_lawProcess (hk := ?_)
            refine G.rdC tab_ok ok_lawProcess (hk := ?_)
            refine G.iffF (h2 := ?_)
            apply G.skip
            apply G.seq
            apply G.seq
            refine G.rg tab_ok ok_lawProcess (hk := ?_)
            refine G.iffF (h2 := ?_)
            apply G.skip
            refine G.rg tab_ok ok_lawProcess (hk := ?_)
            apply G.blk
            refine G.rg tab_ok ok_lawProcess (hk := ?_)
            refine G.nm [3, 4, 8, 9, 10, 17, 18, 19, 20] (h := ?_)
            exact G.upto (hJ (nextP l ins s, n - 1) ⟨⟨hw.next hc1 hc2 hst, fw_next hc1 hi1 hPf hw (by show ¬ (wantK l s.pc).1 = 0; rw [c0]; decide) hfw⟩, goP_pred hst (by omega) hg, by simp only; omega⟩ (by simp only; omega)) (by simp [nextP, wP, xP, tokP, c0, hp, hn1, hwn2, stepRs_len])
          · try simp only [zz, bne_iff_ne, beq_iff_eq, bne_eq_false_iff_eq, beq_eq_false_iff_ne, ne_eq, gt_iff_lt, ge_iff_le] at h6
            refine G.exit rfl ?_
            apply G.seq
            have hR1 : s = ⟨xpc, xrs, xo, xu⟩ := by have := goP_end (l := l) (ins := ins) (n := n) (s := s) (by first | exact .inl hst | exact .inr (by omega)); rw [hg] at this; exact this.symm
            have hRo : s.outs = xo := by rw [hR1]
            have hRu : s.used = xu := by rw [hR1]
            have hRl : LW s.outs := by rw [hRo]; exact hLr
            have hRm : s.outs.length < 5864062014805 := by rw [hRo]; exact hLr2
            have hRn : s.used.length < 17592186044416 := by rw [hRu]; exact hLu
            have hd1 : decide (s.used = xu) = true := decide_eq_true hRu
            have hd2 : decide (s.outs = xo) = true := decide_eq_true hRo
            clear hR1 hRo hRu
            refine G.freeze 18 2 rfl (by simp [look]) ?_
            simp only [List.set_cons_succ, List.set_cons_zero, hrov]
            refine G.freeze 19 3 rfl (by simp [look]) ?_
            simp only [List.set_cons_succ, List.set_cons_zero, hri]
            refine G.rgN 4 tab_ok ok_lawProcess (hk := ?_)
            refine G.rdN 2 tab_ok ok_lawProcess (hk := ?_)
            refine G.rdC tab_ok ok_lawProcess (hk := ?_)
            refine G.fin tab_ok (hr := ?_)
            rfl
        · skip
          have hrd := hw.read hc1 (show (wP l s).1 = 2 from c0)
          simp only [wP, hp] at hrd
          have hq0 : 0 ≤ p := hrd.1
          have hq1 : p < (s.used.length : Int) := by omega
          have hq2 : p.toNat < s.used.length := by omega
          have hq3 : p < (ins.length : Int) := by omega
          have hq4 : p.toNat < ins.length := by omega
          have hub := hw.ub p.toNat hq2
          have hp00 : ¬ p < 0 := by omega
          have hp22 : ¬ p > 2 := by omega
          have hpi : ¬ p ≥ i := by omega
          have hbt : (s.used.getD p.toNat default == (((ins.getD p.toNat default).length : Nat) : Int)) = true := by rw [beq_iff_eq]; exact c1
          have hst : stopP l ins s = true := by rw [stopP_two c0 hp]; exact hbt
          apply G.seq
          apply G.seq
          refine G.rg tab_ok ok_lawProcess (hk := ?_)
          refine G.iff (h1 := fun h11 => ?_) (h2 := fun h11 => ?_)
          · try simp only [zz, bne_iff_ne, beq_iff_eq, bne_eq_false_iff_eq, beq_eq_false_iff_ne, ne_eq, gt_iff_lt, ge_iff_le] at h11
            apply G.skip
            apply G.seq
            apply G.block
            apply G.seq
            have hn0 : n ≠ 0 := by omega
            have hwn2 : IntKind.i64.wrap (fuel - ((n - 1 : Nat) : Int)) = fuel - ((n - 1 : Nat) : Int) := wrap64 (by omega) (by omega)
            have hn1 : fuel - (n : Int) + 1 = fuel - ((n - 1 : Nat) : Int) := by omega
            have hwn : IntKind.i64.wrap (fuel - (n : Int) + 1) = fuel - (n : Int) + 1 := wrap64 (by omega) (by omega)
            refine G.rg tab_ok ok_lawProcess (hk := ?_)
            apply G.seq
            refine G.rg tab_ok ok_lawProcess (hk := ?_)
            apply G.seq
            apply G.seq
            refine G.rgN 3 tab_ok ok_lawProcess (hk := ?_)
            refine G.rdN 2 tab_ok ok_lawProcess (hk := ?_)
            refine G.rdN 2 tab_ok ok_lawProcess (hk := ?_)
            refine G.rdN 2 tab_ok ok_lawProcess (hk := ?_)
            refine G.rdC tab_ok ok_lawProcess (hk := ?_)
            refine G.iffF (h2 := ?_)
            apply G.skip
            apply G.seq
            apply G.seq
            refine G.rg tab_ok ok_lawProcess (hk := ?_)
            refine G.iffT (h1 := ?_)
            apply G.seq
            apply G.seq
            refine G.dr mixed tab_ok ok_lawProcess [0, 1, 2, 3, 4, 5, 6, 7, 8, 9, 10, 11, 12, 13, 14, 15] (hk := ?_)
            refine G.iffT (h1 := ?_)
            refine G.exit rfl ?_
            apply G.seq
            refine G.fg [9, 10, 18, 19] (hk := ?_)
            have hR1 : s = ⟨xpc, xrs, xo, xu⟩ := by have := goP_end (l := l) (ins := ins) (n := n) (s := s) (by first | exact .inl hst | exact .inr (by omega)); rw [hg] at this; exact this.symm
            have hRo : s.outs = xo := by rw [hR1]
            have hRu : s.used = xu := by rw [hR1]
            have hRl : LW s.outs := by rw [hRo]; exact hLr
            have hRm : s.outs.length < 5864062014805 := by rw [hRo]; exact hLr2
            have hRn : s.used.length < 17592186044416 := by rw [hRu]; exact hLu
            have hd1 : decide (s.used = xu) = true := decide_eq_true hRu
            have hd2 : decide (s.outs = xo) = true := decide_eq_true hRo
            clear hR1 hRo hRu
            refine G.freeze 18 2 rfl (by simp [look]) ?_
            simp only [List.set_cons_succ, List.set_cons_zero, hrov]
            refine G.freeze 19 3 rfl (by simp [look]) ?_
            simp only [List.set_cons_succ, List.set_cons_zero, hri]
            refine G.rgN 4 tab_ok ok_lawProcess (hk := ?_)
            refine G.rdN 2 tab_ok ok_lawProcess (hk := ?_)
            refine G.rdC tab_ok ok_lawProcess (hk := ?_)
            refine G.fin tab_ok (hr := ?_)
            rfl
          · try simp only [zz, bne_iff_ne, beq_iff_eq, bne_eq_false_iff_eq, beq_eq_false_iff_ne, ne_eq, gt_iff_lt, ge_iff_le] at h11
            refine G.exit rfl ?_
            apply G.seq
            have hR1 : s = ⟨xpc, xrs, xo, xu⟩ := by have := goP_end (l := l) (ins := ins) (n := n) (s := s) (by first | exact .inl hst | exact .inr (by omega)); rw [hg] at this; exact this.symm
            have hRo : s.outs = xo := by rw [hR1]
            have hRu : s.used = xu := by rw [hR1]
            have hRl : LW s.outs := by rw [hRo]; exact hLr
            have hRm : s.outs.length < 5864062014805 := by rw [hRo]; exact hLr2
            have hRn : s.used.length < 17592186044416 := by rw [hRu]; exact hLu
            have hd1 : decide (s.used = xu) = true := decide_eq_true hRu
            have hd2 : decide (s.outs = xo) = true := decide_eq_true hRo
            clear hR1 hRo hRu
            refine G.freeze 18 2 rfl (by simp [look]) ?_
            simp only [List.set_cons_succ, List.set_cons_zero, hrov]
            refine G.freeze 19 3 rfl (by simp [look]) ?_
            simp only [List.set_cons_succ, List.set_cons_zero, hri]
            refine G.rgN 4 tab_ok ok_lawProcess (hk := ?_)
            refine G.rdN 2 tab_ok ok_lawProcess (hk := ?_)
            refine G.rdC tab_ok ok_lawProcess (hk := ?_)
            refine G.fin tab_ok (hr := ?_)
            rfl
        · skip
          have hrd := hw.read hc1 (show (wP l s).1 = 2 from c0)
          simp only [wP, hp] at hrd
          have hq0 : 0 ≤ p := hrd.1
          have hq1 : p < (s.used.length : Int) := by omega
          have hq2 : p.toNat < s.used.length := by omega
          have hq3 : p < (ins.length : Int) := by omega
          have hq4 : p.toNat < ins.length := by omega
          have hub := hw.ub p.toNat hq2
          have hp00 : ¬ p < 0 := by omega
          have hp22 : ¬ p > 2 := by omega
          have hpi : ¬ p ≥ i := by omega
          have hbt : (s.used.getD p.toNat default == (((ins.getD p.toNat default).length : Nat) : Int)) = false := by rw [beq_eq_false_iff_ne]; exact c1
          have hst : stopP l ins s = false := by rw [stopP_two c0 hp]; exact hbt
          have hn0 : ¬ (wP l s).1 = 0 := by show ¬ (wantK l s.pc).1 = 0; rw [c0]; decide
          obtain ⟨hreg, hop⟩ := hw.reg hc1 hn0
          have hlt := hw.lt hn0
          have hreg2 : RegOk (l.getD s.pc.toNat default) s.rs := hreg
          have hu0 : 0 ≤ s.used.getD p.toNat default := hub.1
          have hu1 : s.used.getD p.toNat default < ((ins.getD p.toNat default).length : Int) := by have := hub.2; omega
          have hu2 : (s.used.getD p.toNat default).toNat < (ins.getD p.toNat default).length := by omega
          have hu3 : s.used[p.toNat]'hq2 < ((ins[p.toNat]'hq4).length : Int) := by simpa [List.getD_eq_getElem?_getD, hq2, hq4] using hu1
          have hsub : (ins.getD p.toNat default).length ≤ 400 := strLen (hc2.it _ (getD_mem hq4))
          have hset : ∀ v : Int, (List.map iv s.used).set p.toNat [.int .i64 v] = List.map iv (s.used.set p.toNat v) := fun v => by rw [List.map_set]; rfl
          have hugt : (List.map iv s.used)[p.toNat]? = some [.int .i64 (s.used.getD p.toNat default)] := by simp [hq2, iv]
          have hwu : IntKind.i64.wrap (s.used.getD p.toNat default + 1) = s.used.getD p.toNat default + 1 := wrap64 (by omega) (by omega)
          have hso := step_yes (i := i) (o := o) (l := l) (pc := s.pc) (rs := s.rs) (token := ((ins.getD p.toNat default).getD (s.used.getD p.toNat default).toNat default)) hc1 hw.act (by rw [c0]; decide) (fun _ => by have := tokP_ok hc2 hw hc1 (show (wP l s).1 = 2 from c0) (by simp only [wP, hp]; omega); unfold tokP at this; simp only [wP, c0, hp, if_true] at this; exact tok_iff.2 this)
          have hsl1 : s.rs.length ≤ (stepRs (l.getD s.pc.toNat default) s.rs ((ins.getD p.toNat default).getD (s.used.getD p.toNat default).toNat default)).length := by rw [stepRs_len]; exact Nat.le_refl _
          apply G.seq
          apply G.seq
          refine G.rg tab_ok ok_lawProcess (hk := ?_)
          refine G.iff (h1 := fun h15 => ?_) (h2 := fun h15 => ?_)
          · try simp only [zz, bne_iff_ne, beq_iff_eq, bne_eq_false_iff_eq, beq_eq_false_iff_ne, ne_eq, gt_iff_lt, ge_iff_le] at h15
            apply G.skip
            apply G.seq
            apply G.block
            apply G.seq
            have hn0 : n ≠ 0 := by omega
            have hwn2 : IntKind.i64.wrap (fuel - ((n - 1 : Nat) : Int)) = fuel - ((n - 1 : Nat) : Int) := wrap64 (by omega) (by omega)
            have hn1 : fuel - (n : Int) + 1 = fuel - ((n - 1 : Nat) : Int) := by omega
            have hwn : IntKind.i64.wrap (fuel - (n : Int) + 1) = fuel - (n : Int) + 1 := wrap64 (by omega) (by omega)
            refine G.rg tab_ok ok_lawProcess (hk := ?_)
            apply G.seq
            refine G.rg tab_ok ok_lawProcess (hk := ?_)
            apply G.seq
            apply G.seq
            refine G.rgN 3 tab_ok ok_lawProcess (hk := ?_)
            refine G.rdN 2 tab_ok ok_lawProcess (hk := ?_)
            refine G.rdN 2 tab_ok ok_lawProcess (hk := ?_)
            refine G.rdN 2 tab_ok ok_lawProcess (hk := ?_)
            refine G.rdC tab_ok ok_lawProcess (hk := ?_)
            refine G.iffF (h2 := ?_)
            apply G.skip
            apply G.seq
            apply G.seq
            refine G.rg tab_ok ok_lawProcess (hk := ?_)
            refine G.iffT (h1 := ?_)
            apply G.seq
            apply G.seq
            refine G.dr mixed tab_ok ok_lawProcess [0, 1, 2, 3, 4, 5, 6, 7, 8, 9, 10, 11, 12, 13, 14, 15] (hk := ?_)
            refine G.iffF (h2 := ?_)
            apply G.skip
            apply G.seq
            refine G.fg [3, 4, 8, 9, 10, 17, 18, 19, 20, 21, 22, 178, 179, 180, 181, 182, 183, 184, 185, 186, 187] (hk := ?_)
            refine G.dr mixed tab_ok ok_lawProcess [0, 1, 2, 3, 4, 5, 6, 7, 8, 9, 10] (hk := ?_)
            refine G.rg tab_ok ok_lawProcess (hk := ?_)
            apply G.seq
            refine G.rg tab_ok ok_lawProcess (hk := ?_)
            apply G.seq
            apply G.seq
            refine G.rgN 3 tab_ok ok_lawProcess (hk := ?_)
            refine G.rdN 2 tab_ok ok_lawProcess (hk := ?_)
            refine G.rdN 2 tab_ok ok_lawProcess (hk := ?_)
            refine G.rdN 2 tab_ok ok_lawProcess (hk := ?_)
            refine G.rdN 2 tab_ok ok_lawProcess (hk := ?_)
            refine G.rdC tab_ok ok_lawProcess (hk := ?_)
            refine G.iffF (h2 := ?_)
            apply G.skip
            apply G.seq
            apply G.seq
            refine G.fg [3, 4, 8, 9, 10, 17, 18, 19, 20, 21, 22, 24, 25] (hk := ?_)
            refine G.rg tab_ok ok_lawProcess (hk := ?_)
            refine G.iffF (h2 := ?_)
            apply G.skip
            refine G.rg tab_ok ok_lawProcess (hk := ?_)
            apply G.blk
            refine G.rg tab_ok ok_lawProcess (hk := ?_)
            refine G.nm [3, 4, 8, 9, 10, 17, 18, 19, 20] (h := ?_)
            exact G.upto (hJ (nextP l ins s, n - 1) ⟨⟨hw.next hc1 hc2 hst, fw_next hc1 hi1 hPf hw (by show ¬ (wantK l s.pc).1 = 0; rw [c0]; decide) hfw⟩, goP_pred hst (by omega) hg, by simp only; omega⟩ (by simp only; omega)) (by simp [nextP, wP, xP, tokP, c0, hp, hn1, hwn2, stepRs_len])
          · try simp only [zz, bne_iff_ne, beq_iff_eq, bne_eq_false_iff_eq, beq_eq_false_iff_ne, ne_eq, gt_iff_lt, ge_iff_le] at h15
            refine G.exit rfl ?_
            apply G.seq
            have hR1 : s = ⟨xpc, xrs, xo, xu⟩ := by have := goP_end (l := l) (ins := ins) (n := n) (s := s) (by first | exact .inl hst | exact .inr (by omega)); rw [hg] at this; exact this.symm
            have hRo : s.outs = xo := by rw [hR1]
            have hRu : s.used = xu := by rw [hR1]
            have hRl : LW s.outs := by rw [hRo]; exact hLr
            have hRm : s.outs.length < 5864062014805 := by rw [hRo]; exact hLr2
            have hRn : s.used.length < 17592186044416 := by rw [hRu]; exact hLu
            have hd1 : decide (s.used = xu) = true := decide_eq_true hRu
            have hd2 : decide (s.outs = xo) = true := decide_eq_true hRo
            clear hR1 hRo hRu
            refine G.freeze 18 2 rfl (by simp [look]) ?_
            simp only [List.set_cons_succ, List.set_cons_zero, hrov]
            refine G.freeze 19 3 rfl (by simp [look]) ?_
            simp only [List.set_cons_succ, List.set_cons_zero, hri]
            refine G.rgN 4 tab_ok ok_lawProcess (hk := ?_)
            refine G.rdN 2 tab_ok ok_lawProcess (hk := ?_)
            refine G.rdC tab_ok ok_lawProcess (hk := ?_)
            refine G.fin tab_ok (hr := ?_)
            rfl
        · skip
          have hrd := hw.write hc1 (show (wP l s).1 = 3 from c0)
          simp only [wP, hp] at hrd
          have hq0 : 0 ≤ p := hrd.1
          have hq1 : p < (s.outs.length : Int) := by omega
          have hq2 : p.toNat < s.outs.length := by omega
          have hob := hw.ob _ (getD_mem hq2)
          have hget : ∀ a : List A, ((s.outs.map ovL).set p.toNat a)[p.toNat]? = some a := fun a => List.getElem?_set_self (by simpa using hq2)
          have hrdc : ∀ a : A, rdCells ((s.outs.map ovL).set p.toNat [a]) p.toNat 0 1 = some [a] := fun a => by simp [rdCells, hget]
          have hss : ∀ a b : List A, ((s.outs.map ovL).set p.toNat a).set p.toNat b = (s.outs.map ovL).set p.toNat b := fun a b => List.set_set ..
          have hsame : s.outs.set p.toNat (s.outs.getD p.toNat default) = s.outs := by
            rw [List.getD_eq_getElem?_getD, List.getElem?_eq_getElem hq2]
            exact List.set_getElem_self hq2
          have hp00 : ¬ p < 0 := by omega
          have hp22 : ¬ p > 2 := by omega
          have hpo2 : ¬ p ≥ o := by omega
          have hbt : ((((s.outs.getD p.toNat default).length : Nat) : Int) == 400) = false := by rw [beq_eq_false_iff_ne]; omega
          have hst : stopP l ins s = false := by rw [stopP_three c0 hp]; exact hbt
          have hn0 : ¬ (wP l s).1 = 0 := by show ¬ (wantK l s.pc).1 = 0; rw [c0]; decide
          obtain ⟨hreg, hop⟩ := hw.reg hc1 hn0
          have hlt := hw.lt hn0
          have hreg2 : RegOk (l.getD s.pc.toNat default) s.rs := hreg
          have happ : ∀ v : Int, List.map iv (s.outs.getD p.toNat default) ++ [[.int .i64 v]] = List.map iv (s.outs.getD p.toNat default ++ [v]) := fun v => by simp [iv]
          have hbo1 : (((s.outs.getD p.toNat default).length + 1 : Nat) : Int) ≤ 4611686018427387904 := by omega
          have hbo2 : ((s.outs.getD p.toNat default).length + 1) * 8 ≤ 70368744177664 := by omega
          have hso := step_yes (i := i) (o := o) (l := l) (pc := s.pc) (rs := s.rs) (token := 0) hc1 hw.act (by rw [c0]; decide) (by rw [c0]; intro h; cases h)
          have hsl1 : s.rs.length ≤ (stepRs (l.getD s.pc.toNat default) s.rs 0).length := by rw [stepRs_len]; exact Nat.le_refl _
          apply G.seq
          apply G.seq
          refine G.rg tab_ok ok_lawProcess (hk := ?_)
          refine G.iff (h1 := fun h21 => ?_) (h2 := fun h21 => ?_)
          · try simp only [zz, bne_iff_ne, beq_iff_eq, bne_eq_false_iff_eq, beq_eq_false_iff_ne, ne_eq, gt_iff_lt, ge_iff_le] at h21
            apply G.skip
            apply G.seq
            apply G.block
            apply G.seq
            have hn0 : n ≠ 0 := by omega
            have hwn2 : IntKind.i64.wrap (fuel - ((n - 1 : Nat) : Int)) = fuel - ((n - 1 : Nat) : Int) := wrap64 (by omega) (by omega)
            have hn1 : fuel - (n : Int) + 1 = fuel - ((n - 1 : Nat) : Int) := by omega
            have hwn : IntKind.i64.wrap (fuel - (n : Int) + 1) = fuel - (n : Int) + 1 := wrap64 (by omega) (by omega)
            refine G.rg tab_ok ok_lawProcess (hk := ?_)
            apply G.seq
            refine G.rg tab_ok ok_lawProcess (hk := ?_)
            apply G.seq
            apply G.seq
            refine G.rgN 3 tab_ok ok_lawProcess (hk := ?_)
            refine G.rdN 2 tab_ok ok_lawProcess (hk := ?_)
            refine G.rdN 2 tab_ok ok_lawProcess (hk := ?_)
            refine G.rdN 2 tab_ok ok_lawProcess (hk := ?_)
            refine G.rdC tab_ok ok_lawProcess (hk := ?_)
            refine G.iffF (h2 := ?_)
            apply G.skip
            apply G.seq
            apply G.seq
            refine G.rg tab_ok ok_lawProcess (hk := ?_)
            refine G.iffF (h2 := ?_)
            apply G.skip
            apply G.seq
            refine G.rg tab_ok ok_lawProcess (hk := ?_)
            apply G.seq
            apply G.seq
            refine G.fg [3, 4, 8, 9, 10, 17, 18, 19, 20, 21, 22, 24, 25, 26] (hk := ?_)
            refine G.rgN 3 tab_ok ok_lawProcess (hk := ?_)
            refine G.rdN 2 tab_ok ok_lawProcess (hk := ?_)
            refine G.rdN 2 tab_ok ok_lawProcess (hk := ?_)
            refine G.rdN 2 tab_ok ok_lawProcess (hk := ?_)
            refine G.rdN 2 tab_ok ok_lawProcess (hk := ?_)
            refine G.rdC tab_ok ok_lawProcess (hk := ?_)
            refine G.iffF (h2 := ?_)
            apply G.skip
            apply G.seq
            apply G.seq
            refine G.rg tab_ok ok_lawProcess (hk := ?_)
            refine G.iffT (h1 := ?_)
            refine G.focusO 2 p.toNat rfl hq2 ?_
            refine G.rg tab_ok ok_lawProcess (hk := ?_)
            refine G.unfocusO 2 p.toNat 9 (r := s.outs.getD p.toNat default ++ [stepW (l.getD s.pc.toNat default) s.rs]) rfl rfl (by decide) (by simp) hq2 ?_
            refine G.rg tab_ok ok_lawProcess (hk := ?_)
            apply G.blk
            refine G.rg tab_ok ok_lawProcess (hk := ?_)
            refine G.nm [3, 4, 8, 9, 10, 17, 18, 19, 20] (h := ?_)
            exact G.upto (hJ (nextP l ins s, n - 1) ⟨⟨hw.next hc1 hc2 hst, fw_next hc1 hi1 hPf hw (by show ¬ (wantK l s.pc).1 = 0; rw [c0]; decide) hfw⟩, goP_pred hst (by omega) hg, by simp only; omega⟩ (by simp only; omega)) (by simp [nextP, wP, xP, tokP, c0, hp, hn1, hwn2, stepRs_len])
          · try simp only [zz, bne_iff_ne, beq_iff_eq, bne_eq_false_iff_eq, beq_eq_false_iff_ne, ne_eq, gt_iff_lt, ge_iff_le] at h21
            refine G.exit rfl ?_
            apply G.seq
            have hR1 : s = ⟨xpc, xrs, xo, xu⟩ := by have := goP_end (l := l) (ins := ins) (n := n) (s := s) (by first | exact .inl hst | exact .inr (by omega)); rw [hg] at this; exact this.symm
            have hRo : s.outs = xo := by rw [hR1]
            have hRu : s.used = xu := by rw [hR1]
            have hRl : LW s.outs := by rw [hRo]; exact hLr
            have hRm : s.outs.length < 5864062014805 := by rw [hRo]; exact hLr2
            have hRn : s.used.length < 17592186044416 := by rw [hRu]; exact hLu
            have hd1 : decide (s.used = xu) = true := decide_eq_true hRu
            have hd2 : decide (s.outs = xo) = true := decide_eq_true hRo
            clear hR1 hRo hRu
            refine G.freeze 18 2 rfl (by simp [look]) ?_
            simp only [List.set_cons_succ, List.set_cons_zero, hrov]
            refine G.freeze 19 3 rfl (by simp [look]) ?_
            simp only [List.set_cons_succ, List.set_cons_zero, hri]
            refine G.rgN 4 tab_ok ok_lawProcess (hk := ?_)
            refine G.rdN 2 tab_ok ok_lawProcess (hk := ?_)
            refine G.rdC tab_ok ok_lawProcess (hk := ?_)
            refine G.fin tab_ok (hr := ?_)
            rfl
end Go.Proofs.Ytimgfinlbhodhaa.Ab
