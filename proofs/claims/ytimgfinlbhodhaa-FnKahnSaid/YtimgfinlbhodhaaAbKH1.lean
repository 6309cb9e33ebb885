/- Walks of functions. -/
import Derived.Test.YtimgfinlbhodhaaAbXS1
import Derived.Test.YtimgfinlbhodhaaAbXS2
import Derived.Test.YtimgfinlbhodhaaFwGo
import Derived.Test.YtimgfinlbhodhaaAbS7
import Derived.Test.YtimgfinlbhodhaaAbV6q
import Derived.Test.YtimgfinlbhodhaaAbMA1
import Derived.Test.YtimgfinlbhodhaaFwGm
namespace Go.Proofs.Ytimgfinlbhodhaa.Ab
open Go
set_option linter.unusedVariables false
set_option linter.unusedSimpArgs false
set_option maxHeartbeats 4000000
theorem ok_lawKahn : Kn.ok Try.prog (kof [(14, q_implStartState), (23, q_lawFresh), (22, q_makeSchedule), (21, q_implRunSchedule), (24, q_implLeastStreams), (25, q_specLeastStreams), (16, q_specIsState), (26, q_lawBelow), (13, q_implRunTurns), (27, q_implIsQuiet), (28, q_makeEqual)]) := kof_cons k_implStartState (kof_cons k_lawFresh (kof_cons k_makeSchedule (kof_cons k_implRunSchedule (kof_cons k_implLeastStreams (kof_cons k_specLeastStreams (kof_cons k_specIsState (kof_cons k_lawBelow (kof_cons k_implRunTurns (kof_cons k_implIsQuiet (kof_cons k_makeEqual ((kof_nil _))))))))))))
theorem en_MakeNetwork : Enters Try.prog 12 := enters_of Try.func12 rfl rfl
set_option maxHeartbeats 40000000 in
theorem lawKahn_ac (bs : List Int) (hc1 : bs.length < 140737488355328) (hc2 : ∀ x ∈ bs, 0 ≤ x ∧ x ≤ 255) : AC Try.prog 4 [.row false 1 (bs.map bv)] (.bool true) := by
 have e_implStartState := e_implStartState
 have e_lawFresh := e_lawFresh
 have e_makeSchedule := e_makeSchedule
 have e_implRunSchedule := e_implRunSchedule
 have e_implLeastStreams := e_implLeastStreams
 have e_specLeastStreams := e_specLeastStreams
 have e_specIsState := e_specIsState
 have e_lawBelow := e_lawBelow
 have e_implRunTurns := e_implRunTurns
 have e_implIsQuiet := e_implIsQuiet
 have e_makeEqual := e_makeEqual
 have hivl := ivL_eq
 have hro := roLL_ovL
 have hpov := pureLL_ovL
 have hnov := noLoanLL_ovL
 have hrov := roLL_ovL
 have hriv := roLL_ivL
 have hpiv := pureLL_ivL
 have hri := roLL_iv
 have hra := roLL_oav
 have hivl := ivL_eq
 have hrb := roLL_bv
 refine AC.of tab_ok Try.func4 rfl (Nat.le_of_ble_eq_true rfl) fun w0 S0 => ?_
 change G _ _ ⟨[(0, .row false 1 (bs.map bv))], [], 101⟩
 apply G.seq
 refine G.rg tab_ok ok_lawKahn (hk := ?_)
 apply G.seq
 apply G.seq
 refine G.rg tab_ok ok_lawKahn (hk := ?_)
 refine G.iff (h1 := fun h1 => ?_) (h2 := fun h1 => ?_)
 ·try simp only [zqz] at h1
  apply G.seq
  refine G.rg tab_ok ok_lawKahn (hk := ?_)
  refine G.fin tab_ok (hr := ?_)
  rfl
 ·try simp only [zqz] at h1
  apply G.skip
  apply G.seq
  have hB : BW bs := ⟨hc2⟩
  have hl0 : bs.length < 1099511627776 := by omega
  refine G.rgN 1 tab_ok ok_lawKahn (hk := ?_)
  refine G.cpX en_MakeNetwork (MakeNetwork_ax bs 6 hB hl0 (by omega) (by omega)) (h := fun y hy => ?_)
  obtain ⟨ps, ks⟩ := y
  simp only at hy
  obtain ⟨hnk, hpo, hks, hpl8⟩ := hy
  refine G.putX (h := ?_)
  refine G.rgC tab_ok ok_lawKahn (hk := ?_)
  refine G.cellRo 1 0 1 0 rfl rfl rfl rfl (by simp) (by decide) (pureLL_kv _) (roLL_kv _) ?_
  simp only [withH, List.set_cons_succ, List.set_cons_zero]
  have hnw := po_nw hpo
  have hkw := ks_kw hks
  have hW := netOk_w hnk
  have hp12 := hW.pl
  have hk30 := hW.kl
  have hpq : ps.length < 3518437208781 := by omega
  have hkq : ks.length < 2513169434844 := by omega
  apply G.seq
  have hso : startO ps ks = ⟨actN ps.length, tkL ks, tkL ks, 0⟩ := by unfold startO; rw [if_pos hnk]
  have hok0 := s0_ok hnk
  obtain ⟨B1, B2, B3, B4, B5, B6⟩ := st_bnds hok0
  have hBF := mkFresh_ok bs 3
  have hFl := mkFresh_len bs 3
  obtain ⟨F, hF⟩ : ∃ x, mkFresh bs 3 = x := ⟨_, rfl⟩
  rw [hF] at hBF hFl
  have hFl0 : F.length < 1099511627776 := by omega
  have hMS := e_makeSchedule F ps ks hBF hFl0 (by omega)
  have hLl : (mkSched F ((ps.length : Int) + 1)).length ≤ 1000000 := by
   unfold mkSched
   rw [schN_len]
   have := belX_ok F 0 (newH F (min F.length 4000)) (n := 500) (by omega)
   omega
  obtain ⟨LS, hLS⟩ : ∃ x, mkSched F ((ps.length : Int) + 1) = x := ⟨_, rfl⟩
  rw [hLS] at hMS hLl
  have hrs := e_implRunSchedule ps ks (actN ps.length) (tkL ks) (tkL ks) 0 LS hnw hkw (by omega) (by omega) B1 (by show (actN ps.length).length < _; have : (actN ps.length).length ≤ 12 := B2; omega) (by show (tkL ks).length < _; have : (tkL ks).length ≤ 30 := B4; omega) B3 (by show (tkL ks).length < _; have : (tkL ks).length ≤ 30 := B6; omega) B5 hok0 hLl
  have hst0 : s0 ps ks = (actN ps.length, tkL ks, tkL ks, 0) := rfl
  obtain ⟨m1, hrun1, hm1⟩ := sched_run (ps := ps) (ks := ks) LS (actN ps.length, tkL ks, tkL ks, 0) 0
  have hki0 := KI.start hnk
  rw [hst0] at hki0
  obtain ⟨js1, hki1⟩ := KI.runs hrun1 hki0
  have htm1 := hrun1.time
  obtain ⟨T, hT⟩ : ∃ x, schedF ps ks LS (actN ps.length, tkL ks, tkL ks, 0) 0 = x := ⟨_, rfl⟩
  rw [hT] at hrs hrun1 hm1 hki1 htm1
  obtain ⟨⟨xz, qz, hz, tz⟩, n⟩ := T
  simp only at hrs hrun1 hm1 hki1 htm1
  obtain ⟨C1, C2, C3, C4, C5, C6⟩ := st_bnds hki1.ok
  simp only at C1 C2 C3 C4 C5 C6
  have hsz : stOk ps ks xz qz hz tz = true := hki1.ok
  have D2 : xz.length < 4398046511104 := by omega
  have D4 : qz.length < 5864062014805 := by omega
  have D6 : hz.length < 5864062014805 := by omega
  have hmn : ¬ ((n : Int) < 0) := by omega
  obtain rfl : tz = (n : Int) := by omega
  clear hm1 htm1
  have htn : ((n : Int) == (n : Int)) = true := beq_self_eq_true _
  clear e_implRunSchedule e_makeSchedule hT B1 B2 B3 B4 B5 B6 hLS
  apply G.joinR
  ·intro hk
   refine G.drawL (c := ⟨Try.prog, tab, _, _, _, _, _⟩) mixed tab_ok ok_lawKahn 14 ?_ rfl
   refine AnyL.gg (n := 10) 4 [0, 1, 3, 5] (h := ?_)
   refine AnyL.fk2 (n := 9) 2 11 (k1 := ?_) (k2 := ?_)
   ·skip
    refine AnyL.fk2 (n := 8) 4 11 (k1 := ?_) (k2 := ?_)
    ·skip
     refine AnyL.fk2 (n := 7) 6 11 (k1 := ?_) (k2 := ?_)
     ·skip
      refine AnyL.fk2 (n := 6) 7 11 (k1 := ?_) (k2 := ?_)
      ·skip
       refine AnyL.gg (n := 0) 6 [8, 9, 10, 11, 12, 13] (h := ?_)
       exact AnyL.ln [3, 4, 5] (h := hk)
      ·skip
       refine AnyL.gg (n := 0) 6 [7, 8, 9, 10, 12, 13] (h := ?_)
       exact AnyL.ln [3, 4, 5] (h := hk)
     ·skip
      refine AnyL.gg (n := 0) 7 [6, 7, 8, 9, 10, 12, 13] (h := ?_)
      exact AnyL.ln [3, 4, 5] (h := hk)
    ·skip
     refine AnyL.gg (n := 0) 8 [4, 6, 7, 8, 9, 10, 12, 13] (h := ?_)
     exact AnyL.ln [3, 4, 5] (h := hk)
   ·skip
    refine AnyL.gg (n := 0) 9 [2, 4, 6, 7, 8, 9, 10, 12, 13] (h := ?_)
    exact AnyL.ln [3, 4, 5] (h := hk)
  refine G.cellRo2 1 0 0 2 rfl rfl rfl rfl (by simp) (by decide) (pureLL_oav _) (roLL_oav _) ?_
  simp only [withH, List.set_cons_succ, List.set_cons_zero]
  refine G.cellRo2 1 0 1 3 rfl rfl rfl rfl (by simp) (by decide) (pureLL_ovL _) (roLL_ovL _) ?_
  simp only [withH, List.set_cons_succ, List.set_cons_zero]
  refine G.cellRo2 1 0 2 4 rfl rfl rfl rfl (by simp) (by decide) (pureLL_ovL _) (roLL_ovL _) ?_
  simp only [withH, List.set_cons_succ, List.set_cons_zero]
  apply G.seq
  obtain ⟨L, hL⟩ : ∃ x, leastO ps ks = x := ⟨_, rfl⟩
  obtain ⟨H, c, b⟩ := L
  refine G.rg tab_ok ok_lawKahn (hk := ?_)
  refine G.freeze 6 5 rfl (by simp [look]) ?_
  simp only [List.set_cons_succ, List.set_cons_zero, hrov]
  apply G.seq
  refine G.fg [3, 4, 5, 6, 8] (hk := ?_)
  refine G.rg tab_ok ok_lawKahn (hk := ?_)
  apply G.seq
  apply G.seq
  have hbb : (b == b) = true := by simp
  refine G.rgN 4 tab_ok ok_lawKahn (hk := ?_)
  refine G.rdN 2 tab_ok ok_lawKahn (hk := ?_)
  refine G.rdN 2 tab_ok ok_lawKahn (hk := ?_)
  refine G.rdN 2 tab_ok ok_lawKahn (hk := ?_)
  refine G.rdN 2 tab_ok ok_lawKahn (hk := ?_)
  refine G.rdN 2 tab_ok ok_lawKahn (hk := ?_)
  refine G.rdN 2 tab_ok ok_lawKahn (hk := ?_)
  refine G.rdN 2 tab_ok ok_lawKahn (hk := ?_)
  refine G.rdC tab_ok ok_lawKahn (hk := ?_)
  refine G.iffF (h2 := ?_)
  apply G.skip
  apply G.seq
  apply G.seq
  refine G.rg tab_ok ok_lawKahn (hk := ?_)
  refine G.fg [3, 4, 6, 62] (hk := ?_)
  refine G.iff (h1 := fun h3 => ?_) (h2 := fun h3 => ?_)
  ·try simp only [zqz] at h3
   apply G.seq
   refine G.rg tab_ok ok_lawKahn (hk := ?_)
   refine G.fin tab_ok (hr := ?_)
   rfl
  ·try simp only [zqz] at h3
   apply G.skip
   apply G.seq
   apply G.seq
   have w := least_w (ps := ps) (ks := ks) (by rw [hL]; exact h3)
   rw [hL] at w
   simp only at w
   have hsl := s0_le w
   rw [hst0] at hsl
   have hle := KI.runsLe w hrun1 hki0 hsl
   simp only at hle
   have hLWH : LW H := all_LW w.str
   have hHb : H.length < 5864062014805 := by have := w.len; omega
   have hbl := below_yes hle w.str
   refine G.rg tab_ok ok_lawKahn (hk := ?_)
   refine G.iffF (h2 := ?_)
   apply G.skip
   apply G.seq
   have hrt := e_implRunTurns ps ks xz qz hz (n : Int) 20000 hnw hkw (by omega) (by omega) C1 D2 D4 C3 D6 C5 hsz
   obtain ⟨m2, hrun2, hmq⟩ := turnsO_run (most := 20000) hki1.ok
   obtain ⟨js2, hki2⟩ := KI.runs hrun2 hki1
   have hle2 := KI.runsLe w hrun2 hki1 hle
   have htm2 := hrun2.time
   obtain ⟨T, hT⟩ : ∃ x, turnsO ps ks 20000 (xz, qz, hz, (n : Int)) = x := ⟨_, rfl⟩
   rw [hT] at hrt hmq hki2 hle2 htm2
   obtain ⟨xy, qy, hy, ty⟩ := T
   simp only at hrt hle2 htm2
   have htm := hid htm2
   clear htm2
   obtain ⟨E1, E2, E3, E4, E5, E6⟩ := st_bnds hki2.ok
   simp only at E1 E2 E3 E4 E5 E6
   have hsy : stOk ps ks xy qy hy ty = true := hki2.ok
   have F2 : xy.length < 4398046511104 := by omega
   have F4 : qy.length < 5864062014805 := by omega
   have F6 : hy.length < 5864062014805 := by omega
   obtain ⟨fq, hfq⟩ : ∃ x, firstC ps ks xy qy hy ty = x := ⟨_, rfl⟩
   rw [hfq] at hrt
   have hqy : quietO ps ks xy qy hy ty = fq := by unfold quietO; rw [hsy, hfq]; rfl
   clear e_implRunTurns hrun2 hT
   refine G.rg tab_ok ok_lawKahn (hk := ?_)
   refine G.cellRo2 10 0 0 7 rfl rfl rfl rfl (by simp) (by decide) (pureLL_oav _) (roLL_oav _) ?_
   simp only [withH, List.set_cons_succ, List.set_cons_zero]
   refine G.cellRo2 10 0 1 8 rfl rfl rfl rfl (by simp) (by decide) (pureLL_ovL _) (roLL_ovL _) ?_
   simp only [withH, List.set_cons_succ, List.set_cons_zero]
   refine G.cellRo2 10 0 2 9 rfl rfl rfl rfl (by simp) (by decide) (pureLL_ovL _) (roLL_ovL _) ?_
   simp only [withH, List.set_cons_succ, List.set_cons_zero]
   apply G.seq
   apply G.seq
   cases fq
   ·skip
    have hge : ty ≥ 20000 := by
     rcases hmq with hmq | hmq
     ·rw [htm.un]; have := (okS_t hki1.ok).1; simp only at this; omega
     ·rw [first_of hmq] at hfq; cases hfq
    refine G.rgN 3 tab_ok ok_lawKahn (hk := ?_)
    refine G.rdN 2 tab_ok ok_lawKahn (hk := ?_)
    refine G.rdN 2 tab_ok ok_lawKahn (hk := ?_)
    refine G.rdC tab_ok ok_lawKahn (hk := ?_)
    refine G.iffT (h1 := ?_)
    apply G.seq
    refine G.rg tab_ok ok_lawKahn (hk := ?_)
    refine G.fin tab_ok (hr := ?_)
    simp only [oneOrTup, hge, decide_true]
   ·skip
    obtain ⟨hey, _⟩ := quiet_all hki2 w hle2 (time_w hki2 w hle2 (by omega)) (first_all hfq)
    simp only at hey
    have hd1 : decide (hy = H) = true := decide_eq_true hey
    clear hey
    refine G.rgN 3 tab_ok ok_lawKahn (hk := ?_)
    refine G.rdN 2 tab_ok ok_lawKahn (hk := ?_)
    refine G.rdN 2 tab_ok ok_lawKahn (hk := ?_)
    refine G.rdC tab_ok ok_lawKahn (hk := ?_)
    refine G.iffF (h2 := ?_)
    apply G.skip
    apply G.seq
    obtain ⟨q0, hq0⟩ : ∃ x, quietO ps ks xz qz hz (n : Int) = x := ⟨_, rfl⟩
    cases q0
    ·skip
     refine G.rgN 5 tab_ok ok_lawKahn (hk := ?_)
     refine G.rdN 2 tab_ok ok_lawKahn (hk := ?_)
     refine G.rdN 2 tab_ok ok_lawKahn (hk := ?_)
     refine G.rdN 2 tab_ok ok_lawKahn (hk := ?_)
     refine G.rdN 2 tab_ok ok_lawKahn (hk := ?_)
     refine G.rdN 2 tab_ok ok_lawKahn (hk := ?_)
     refine G.rdC tab_ok ok_lawKahn (hk := ?_)
     refine G.fin tab_ok (hr := ?_)
     rfl
    ·skip
     have hf0 : firstC ps ks xz qz hz (n : Int) = true := by
      unfold quietO at hq0
      rw [hsz] at hq0
      simpa using hq0
     obtain ⟨hez, _⟩ := quiet_all hki1 w hle (time_w hki1 w hle (by omega)) (first_all hf0)
     simp only at hez
     have hd2 : decide (hz = H) = true := decide_eq_true hez
     clear hez
     refine G.rgN 5 tab_ok ok_lawKahn (hk := ?_)
     refine G.rdN 2 tab_ok ok_lawKahn (hk := ?_)
     refine G.rdN 2 tab_ok ok_lawKahn (hk := ?_)
     refine G.rdN 2 tab_ok ok_lawKahn (hk := ?_)
     refine G.rdN 2 tab_ok ok_lawKahn (hk := ?_)
     refine G.rdN 2 tab_ok ok_lawKahn (hk := ?_)
     refine G.rdC tab_ok ok_lawKahn (hk := ?_)
     refine G.fin tab_ok (hr := ?_)
     rfl
end Go.Proofs.Ytimgfinlbhodhaa.Ab
