/- Walks of functions. -/
import Derived.Test.YtimgfinlbhodhaaFwGn
import Derived.Test.YtimgfinlbhodhaaFwGo
import Derived.Test.YtimgfinlbhodhaaAbO4
import Derived.Test.YtimgfinlbhodhaaAbO2
import Derived.Test.YtimgfinlbhodhaaAbV6b
import Derived.Test.YtimgfinlbhodhaaAbIT
import Derived.Test.YtimgfinlbhodhaaFwGm
namespace Go.Proofs.Ytimgfinlbhodhaa.Ab
open Go
set_option linter.unusedVariables false
set_option linter.unusedSimpArgs false
set_option maxHeartbeats 4000000
theorem ok_lawWaits : Kn.ok Try.prog (kof [(24, q_implLeastStreams), (49, q_specStartState), (13, q_implRunTurns), (16, q_specIsState), (50, q_implWaitsOf), (51, q_implObserveNetwork), (46, q_implOutputsOf), (52, q_implBlockedOn), (35, q_ints)]) := kof_cons k_implLeastStreams (kof_cons k_specStartState (kof_cons k_implRunTurns (kof_cons k_specIsState (kof_cons k_implWaitsOf (kof_cons k_implObserveNetwork (kof_cons k_implOutputsOf (kof_cons k_implBlockedOn (kof_cons k_ints ((kof_nil _))))))))))
theorem en_MakeNetwork : Enters Try.prog 12 := enters_of Try.func12 rfl rfl
theorem lawWaits_ac (bs : List Int) (hc1 : bs.length < 140737488355328) (hc2 : ∀ x ∈ bs, 0 ≤ x ∧ x ≤ 255) : AC Try.prog 9 [.row false 1 (bs.map bv)] (.bool true) := by
 have e_implLeastStreams := e_implLeastStreams
 have e_specStartState := e_specStartState
 have e_implRunTurns := e_implRunTurns
 have e_specIsState := e_specIsState
 have e_implWaitsOf := e_implWaitsOf
 have e_implObserveNetwork := e_implObserveNetwork
 have e_implOutputsOf := e_implOutputsOf
 have e_implBlockedOn := e_implBlockedOn
 have e_ints := e_ints
 have hivl := ivL_eq
 have hro := roLL_ovL
 have hpov := pureLL_ovL
 have hnov := noLoanLL_ovL
 have hrov := roLL_ovL
 have hriv := roLL_ivL
 have hpiv := pureLL_ivL
 have hri := roLL_iv
 have hra := roLL_oav
 have hivl := ivL_eq
 refine AC.of tab_ok Try.func9 rfl (Nat.le_of_ble_eq_true rfl) fun w0 S0 => ?_
 change G _ _ ⟨[(0, .row false 1 (bs.map bv))], [], 130⟩
 apply G.seq
 refine G.rg tab_ok ok_lawWaits (hk := ?_)
 apply G.seq
 apply G.seq
 refine G.rg tab_ok ok_lawWaits (hk := ?_)
 refine G.iff (h1 := fun h1 => ?_) (h2 := fun h1 => ?_)
 ·try simp only [zqz] at h1
  apply G.seq
  refine G.rg tab_ok ok_lawWaits (hk := ?_)
  refine G.fin tab_ok (hr := ?_)
  rfl
 ·try simp only [zqz] at h1
  apply G.skip
  apply G.seq
  have hB : BW bs := ⟨hc2⟩
  have hl0 : bs.length < 1099511627776 := by omega
  refine G.rgN 1 tab_ok ok_lawWaits (hk := ?_)
  refine G.cpX en_MakeNetwork (MakeNetwork_ax bs 6 hB hl0 (by omega) (by omega)) (h := fun y hy => ?_)
  obtain ⟨ps, ks⟩ := y
  simp only at hy
  obtain ⟨hnk, hpo, hks, hpl8⟩ := hy
  refine G.putX (h := ?_)
  refine G.rgC tab_ok ok_lawWaits (hk := ?_)
  refine G.cellRo 1 0 1 0 rfl rfl rfl rfl (by simp) (by decide) (pureLL_kv _) (roLL_kv _) ?_
  simp only [withH, List.set_cons_succ, List.set_cons_zero]
  have hnw := po_nw hpo
  have hkw := ks_kw hks
  have hW := netOk_w hnk
  have hp12 := hW.pl
  have hk30 := hW.kl
  have hpq : ps.length < 3518437208781 := by omega
  have hkq : ks.length < 2513169434844 := by omega
  apply G.seq
  obtain ⟨L, hL⟩ : ∃ x, leastO ps ks = x := ⟨_, rfl⟩
  obtain ⟨H, c, b⟩ := L
  refine G.rg tab_ok ok_lawWaits (hk := ?_)
  refine G.freeze 4 2 rfl (by simp [look]) ?_
  simp only [List.set_cons_succ, List.set_cons_zero, hrov]
  apply G.seq
  have hso : startO ps ks = ⟨actN ps.length, tkL ks, tkL ks, 0⟩ := by unfold startO; rw [if_pos hnk]
  have hok0 := s0_ok hnk
  obtain ⟨B1, B2, B3, B4, B5, B6⟩ := st_bnds hok0
  have hrt := e_implRunTurns ps ks (actN ps.length) (tkL ks) (tkL ks) 0 20000 hnw hkw (by omega) (by omega) B1 (by show (actN ps.length).length < _; have : (actN ps.length).length ≤ 12 := B2; omega) (by show (tkL ks).length < _; have : (tkL ks).length ≤ 30 := B4; omega) B3 (by show (tkL ks).length < _; have : (tkL ks).length ≤ 30 := B6; omega) B5 hok0
  obtain ⟨m, hrun, hmq⟩ := turnsO_run (most := 20000) hok0
  obtain ⟨js, hki⟩ := KI.runs hrun (KI.start hnk)
  have hst0 : s0 ps ks = (actN ps.length, tkL ks, tkL ks, 0) := rfl
  rw [hst0] at hrun hmq hki
  obtain ⟨T, hT⟩ : ∃ x, turnsO ps ks 20000 (actN ps.length, tkL ks, tkL ks, 0) = x := ⟨_, rfl⟩
  rw [hT] at hrt hrun hmq hki
  obtain ⟨xz, qz, hz, tz⟩ := T
  simp only at hrt
  obtain ⟨C1, C2, C3, C4, C5, C6⟩ := st_bnds hki.ok
  simp only at C1 C2 C3 C4 C5 C6
  have hsz : stOk ps ks xz qz hz tz = true := hki.ok
  have D2 : xz.length < 4398046511104 := by omega
  have D4 : qz.length < 5864062014805 := by omega
  have D6 : hz.length < 5864062014805 := by omega
  obtain ⟨fq, hfq⟩ : ∃ x, firstC ps ks xz qz hz tz = x := ⟨_, rfl⟩
  rw [hfq] at hrt
  clear e_implRunTurns hT B1 B2 B3 B4 B5 B6 hst0
  apply G.joinR
  ·intro hk
   refine G.drawL (c := ⟨Try.prog, tab, _, _, _, _, _⟩) mixed tab_ok ok_lawWaits 10 ?_ rfl
   refine AnyL.gg (n := 8) 2 [0, 1] (h := ?_)
   refine AnyL.fk2 (n := 7) 2 7 (k1 := ?_) (k2 := ?_)
   ·skip
    refine AnyL.fk2 (n := 6) 3 7 (k1 := ?_) (k2 := ?_)
    ·skip
     refine AnyL.gg (n := 0) 6 [4, 5, 6, 7, 8, 9] (h := ?_)
     exact AnyL.ln [3, 4, 6, 7, 8, 89, 90, 91, 92, 93, 94, 95, 96, 97, 98, 99, 100, 101, 102, 103, 104, 105, 106, 107, 108, 109, 110, 111, 112, 113, 114, 115, 116, 117, 118, 119, 120, 121, 122, 123, 124, 125, 126, 127] (h := hk)
    ·skip
     refine AnyL.gg (n := 0) 6 [3, 4, 5, 6, 8, 9] (h := ?_)
     exact AnyL.ln [3, 4, 6, 7, 8, 89, 90, 91, 92, 93, 94, 95, 96, 97, 98, 99, 100, 101, 102, 103, 104, 105, 106, 107, 108, 109, 110, 111, 112, 113, 114, 115, 116, 117, 118, 119, 120, 121, 122, 123, 124, 125, 126, 127] (h := hk)
   ·skip
    refine AnyL.gg (n := 0) 7 [2, 3, 4, 5, 6, 8, 9] (h := ?_)
    exact AnyL.ln [3, 4, 6, 7, 8, 89, 90, 91, 92, 93, 94, 95, 96, 97, 98, 99, 100, 101, 102, 103, 104, 105, 106, 107, 108, 109, 110, 111, 112, 113, 114, 115, 116, 117, 118, 119, 120, 121, 122, 123, 124, 125, 126, 127] (h := hk)
  refine G.cellRo2 1 0 0 2 rfl rfl rfl rfl (by simp) (by decide) (pureLL_oav _) (roLL_oav _) ?_
  simp only [withH, List.set_cons_succ, List.set_cons_zero]
  refine G.cellRo2 1 0 1 3 rfl rfl rfl rfl (by simp) (by decide) (pureLL_ovL _) (roLL_ovL _) ?_
  simp only [withH, List.set_cons_succ, List.set_cons_zero]
  refine G.cellRo2 1 0 2 4 rfl rfl rfl rfl (by simp) (by decide) (pureLL_ovL _) (roLL_ovL _) ?_
  simp only [withH, List.set_cons_succ, List.set_cons_zero]
  apply G.seq
  apply G.seq
  refine G.rg tab_ok ok_lawWaits (hk := ?_)
  refine G.iffF (h2 := ?_)
  apply G.skip
  apply G.seq
  apply G.seq
  rcases (show b = false ∨ (b = true ∧ fq = false) ∨ (b = true ∧ fq = true ∧ 20000 ≤ tz) ∨ (b = true ∧ fq = true ∧ tz < 20000) by cases b <;> cases fq <;> simp <;> omega) with c1 | ⟨c1, c2⟩ | ⟨c1, c2, c3⟩ | ⟨c1, c2, c3⟩
  ·skip
   subst c1
   refine G.fg [3, 4, 6, 7, 8, 89, 90, 91, 92, 93, 94, 95, 96, 97, 98, 99, 100, 101, 102, 103, 104, 105, 106, 107, 108, 109, 110, 111, 112, 113, 114, 115, 116, 117, 118, 119, 120, 121, 122, 123, 124, 125, 126, 127] (hk := ?_)
   refine G.rgN 3 tab_ok ok_lawWaits (hk := ?_)
   refine G.rdN 2 tab_ok ok_lawWaits (hk := ?_)
   refine G.rdN 2 tab_ok ok_lawWaits (hk := ?_)
   refine G.rdN 2 tab_ok ok_lawWaits (hk := ?_)
   refine G.rdC tab_ok ok_lawWaits (hk := ?_)
   refine G.iffT (h1 := ?_)
   apply G.seq
   refine G.rg tab_ok ok_lawWaits (hk := ?_)
   refine G.fin tab_ok (hr := ?_)
   rfl
  ·skip
   subst c1 c2
   refine G.fg [3, 4, 6, 7, 8, 89, 90, 91, 92, 93, 94, 95, 96, 97, 98, 99, 100, 101, 102, 103, 104, 105, 106, 107, 108, 109, 110, 111, 112, 113, 114, 115, 116, 117, 118, 119, 120, 121, 122, 123, 124, 125, 126, 127] (hk := ?_)
   refine G.rgN 3 tab_ok ok_lawWaits (hk := ?_)
   refine G.rdN 2 tab_ok ok_lawWaits (hk := ?_)
   refine G.rdN 2 tab_ok ok_lawWaits (hk := ?_)
   refine G.rdN 2 tab_ok ok_lawWaits (hk := ?_)
   refine G.rdC tab_ok ok_lawWaits (hk := ?_)
   refine G.iffT (h1 := ?_)
   apply G.seq
   refine G.rg tab_ok ok_lawWaits (hk := ?_)
   refine G.fin tab_ok (hr := ?_)
   rfl
  ·skip
   subst c1 c2
   have c4 : tz ≥ 20000 := c3
   refine G.fg [3, 4, 6, 7, 8, 89, 90, 91, 92, 93, 94, 95, 96, 97, 98, 99, 100, 101, 102, 103, 104, 105, 106, 107, 108, 109, 110, 111, 112, 113, 114, 115, 116, 117, 118, 119, 120, 121, 122, 123, 124, 125, 126, 127] (hk := ?_)
   refine G.rgN 3 tab_ok ok_lawWaits (hk := ?_)
   refine G.rdN 2 tab_ok ok_lawWaits (hk := ?_)
   refine G.rdN 2 tab_ok ok_lawWaits (hk := ?_)
   refine G.rdN 2 tab_ok ok_lawWaits (hk := ?_)
   refine G.rdC tab_ok ok_lawWaits (hk := ?_)
   refine G.iffT (h1 := ?_)
   apply G.seq
   refine G.rg tab_ok ok_lawWaits (hk := ?_)
   refine G.fin tab_ok (hr := ?_)
   rfl
  ·skip
   subst c1 c2
   have c4 : ¬ tz ≥ 20000 := by omega
   refine G.fg [3, 4, 6, 7, 8, 89, 90, 91, 92, 93, 94, 95, 96, 97, 98, 99, 100, 101, 102, 103, 104, 105, 106, 107, 108, 109, 110, 111, 112, 113, 114, 115, 116, 117, 118, 119, 120, 121, 122, 123, 124, 125, 126, 127] (hk := ?_)
   refine G.rgN 3 tab_ok ok_lawWaits (hk := ?_)
   refine G.rdN 2 tab_ok ok_lawWaits (hk := ?_)
   refine G.rdN 2 tab_ok ok_lawWaits (hk := ?_)
   refine G.rdN 2 tab_ok ok_lawWaits (hk := ?_)
   refine G.rdC tab_ok ok_lawWaits (hk := ?_)
   refine G.iffF (h2 := ?_)
   apply G.skip
   apply G.seq
   have w := least_w (ps := ps) (ks := ks) (by rw [hL])
   rw [hL] at w
   simp only at w
   have hle := KI.runsLe w hrun (KI.start hnk) (s0_le w)
   obtain ⟨hhz, hall⟩ := quiet_all hki w hle (by simpa using c3) (first_all hfq)
   simp only at hhz
   subst hhz
   have hwb := waits_eq hall
   have hWO : waitO ps ks = (blkN ps ks xz qz ps.length, true) := by rw [waitO_yes (by rw [hL]), hL, hwb]
   have hBO : blkO ps ks xz qz hz tz = blkN ps ks xz qz ps.length := by unfold blkO; rw [if_pos hsz]
   have hOO : obsO ps ks = (obsU ks hz ks.length, true) := by rw [obsO_yes (by rw [hL]), hL]
   have hPO : putsO isOut ps ks = whereL isOut ks ks.length := by unfold putsO; rw [if_pos hnk]
   have hwm := where_map (ks := ks) hz ks.length
   have hwi := where_in isOut ks ks.length
   have hwo := where_is (f := isOut) (ks := ks) (n := ks.length)
   have hwl := whereL_len isOut ks ks.length
   obtain ⟨OL, hOL⟩ : ∃ x, whereL isOut ks ks.length = x := ⟨_, rfl⟩
   rw [hOL] at hPO hwm hwi hwo hwl
   obtain ⟨OB, hOB⟩ : ∃ x, obsU ks hz ks.length = x := ⟨_, rfl⟩
   rw [hOB] at hOO hwm
   have hBl := blkN_len (ps := ps) (ks := ks) (xs := xz) (qs := qz) ps.length
   obtain ⟨WB, hWB⟩ : ∃ x, blkN ps ks xz qz ps.length = x := ⟨_, rfl⟩
   rw [hWB] at hWO hBO hBl
   have hBl2 : WB.length < 17592186044416 := by omega
   have hOl : OB.length = OL.length := by rw [← hwm, List.length_map]
   have hOl1 : ((OB.length : Int) == (OL.length : Int)) = true := by rw [beq_iff_eq, hOl]
   have hOl2 : OB.length ≤ OL.length := Nat.le_of_eq hOl
   have hOl3 : OL.length ≤ OB.length := Nat.le_of_eq hOl.symm
   have hhl := w.len
   have hh1 : hz.length ≤ ks.length := Nat.le_of_eq hhl
   have hh2 : ks.length ≤ hz.length := Nat.le_of_eq hhl.symm
   have hql : qz.length = ks.length := (stOk_w hki.ok).ql
   have hq1 : qz.length ≤ ks.length := Nat.le_of_eq hql
   have hq2 : ks.length ≤ qz.length := Nat.le_of_eq hql.symm
   have hdW : decide (WB = WB) = true := decide_eq_true rfl
   clear hwb hOB hWB hBl hOl hhl hql hL hOL
   refine G.rg tab_ok ok_lawWaits (hk := ?_)
   apply G.seq
   refine G.rg tab_ok ok_lawWaits (hk := ?_)
   refine G.freeze 11 6 rfl (by simp [look]) ?_
   simp only [List.set_cons_succ, List.set_cons_zero, hrov]
   apply G.seq
   refine G.rg tab_ok ok_lawWaits (hk := ?_)
   refine G.freeze 13 7 rfl (by simp [look]) ?_
   simp only [List.set_cons_succ, List.set_cons_zero, hri]
   apply G.seq
   apply G.seq
   refine G.rgN 3 tab_ok ok_lawWaits (hk := ?_)
   refine G.rdN 2 tab_ok ok_lawWaits (hk := ?_)
   refine G.rdN 2 tab_ok ok_lawWaits (hk := ?_)
   refine G.rdN 2 tab_ok ok_lawWaits (hk := ?_)
   refine G.rdN 2 tab_ok ok_lawWaits (hk := ?_)
   refine G.rdN 2 tab_ok ok_lawWaits (hk := ?_)
   refine G.rdN 2 tab_ok ok_lawWaits (hk := ?_)
   refine G.rdN 2 tab_ok ok_lawWaits (hk := ?_)
   refine G.rdN 2 tab_ok ok_lawWaits (hk := ?_)
   refine G.rdC tab_ok ok_lawWaits (hk := ?_)
   refine G.iffF (h2 := ?_)
   apply G.skip
   apply G.seq
   apply G.seq
   refine G.fg [3, 4, 7, 11, 13, 89, 90, 91, 92, 93, 94, 95, 96, 97, 98, 99, 100, 101, 102, 103, 104, 105, 106, 107, 108, 109, 110, 111, 112, 113, 114, 115, 116, 117, 118, 119, 120, 121, 122, 123, 124, 125, 126, 127] (hk := ?_)
   refine G.rg tab_ok ok_lawWaits (hk := ?_)
   apply G.block
   skip
   refine G.nm [3, 4, 7, 11, 82, 83, 84] (h := ?_)
   refine G.loopX (fun i : Nat => ⟨[(3, .ptr 0 0 0), (4, .row false 1 (hz.map ivL)), (7, .ptr 1 0 0), (11, .row false 1 (OB.map ivL)), (82, .row false 1 (OL.map iv)), (83, .int .i64 OL.length), (84, .int .i64 (i : Nat))], [some (2, [[.row false 3 (ps.map pv), .row false 5 (ks.map kv)]]), some (4, [[.row false 2 (xz.map av), .row false 1 (qz.map ivL), .row false 1 (hz.map ivL), .int .i64 tz]])], 130⟩) (fun i => i ≤ OL.length) (fun i => OL.length - i) (0) (Nat.zero_le _) (by simp) ?_
   intro i hi J hJ
   have hwi1 : IntKind.i64.wrap ((i : Int) + 1) = ((i + 1 : Nat) : Int) := by rw [wrap64 (by omega) (by omega)]; omega
   apply G.seq
   refine G.rg tab_ok ok_lawWaits (hk := ?_)
   apply G.seq
   refine G.iff (h1 := fun h8 => ?_) (h2 := fun h8 => ?_)
   ·try simp only [zqz] at h8
    apply G.skip
    apply G.seq
    apply G.block
    apply G.seq
    have hio : i < OL.length := by omega
    have hiB : i < OB.length := by omega
    refine G.rg tab_ok ok_lawWaits (hk := ?_)
    apply G.seq
    obtain ⟨o0, o1⟩ := hwi _ (getD_mem0 hio)
    have oo := hwo _ (getD_mem0 hio)
    have hbo : OB.getD i default = hz.getD (OL.getD i default).toNat default := by
     rw [← hwm, List.getD_eq_getElem?_getD, List.getElem?_map, getD_some hio]; rfl
    have hto : (ks.getD (OL.getD i default).toNat default).to = -1 := by unfold isOut at oo; simpa using oo
    have hoq : qz.getD (OL.getD i default).toNat default = hz.getD (OL.getD i default).toNat default := out_queue hki.ok (by omega) hto
    obtain ⟨o, hoe⟩ : ∃ x, OL.getD i default = x := ⟨_, rfl⟩
    rw [hoe] at o0 o1 hbo hoq
    obtain ⟨y, hy⟩ : ∃ x, hz.getD o.toNat default = x := ⟨_, rfl⟩
    have hyl : y.length < 17592186044416 := by rw [← hy]; exact C5 _ (getD_mem0 (by omega))
    have n1 : ¬ o < 0 := by omega
    have n2 : ¬ o ≥ (hz.length : Int) := by omega
    have n3 : ¬ o ≥ (ks.length : Int) := by omega
    have n4 : o.toNat < hz.length := by omega
    have n5 : o < (hz.length : Int) := by omega
    have n6 : o.toNat < qz.length := by omega
    have n7 : o < (qz.length : Int) := by omega
    have n8 : (i : Int) < (OB.length : Int) := by omega
    rw [hy] at hbo hoq
    have hdy : decide (y = y) = true := decide_eq_true rfl
    refine G.dr mixed tab_ok ok_lawWaits [0, 1, 2, 3, 4, 5, 6, 7, 8, 9, 10, 11, 12, 13, 14, 15, 16, 17, 18, 19, 20, 21, 22, 23, 24, 25, 26, 27, 28, 29, 30, 31, 32, 33, 34, 35, 36, 37, 38, 39] (hk := ?_)
    refine G.iffF (h2 := ?_)
    apply G.skip
    apply G.blk
    refine G.fg [3, 4, 7, 11, 82, 83, 84] (hk := ?_)
    refine G.rg tab_ok ok_lawWaits (hk := ?_)
    refine G.nm [3, 4, 7, 11, 82, 83, 84] (h := ?_)
    exact G.upto (hJ (i + 1) (by omega) (by omega)) (by simp)
   ·try simp only [zqz] at h8
    refine G.exit rfl ?_
    apply G.seq
    refine G.rg tab_ok ok_lawWaits (hk := ?_)
    refine G.fin tab_ok (hr := ?_)
    rfl
end Go.Proofs.Ytimgfinlbhodhaa.Ab
