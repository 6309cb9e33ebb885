/- Walks of functions. -/
import Derived.Test.YtimgfinlbhodhaaFwGn
import Derived.Test.YtimgfinlbhodhaaFwGo
import Derived.Test.YtimgfinlbhodhaaAbS7
import Derived.Test.YtimgfinlbhodhaaAbP44
import Derived.Test.YtimgfinlbhodhaaAbT1
import Derived.Test.YtimgfinlbhodhaaAbMA1
import Derived.Test.YtimgfinlbhodhaaFwGm
namespace Go.Proofs.Ytimgfinlbhodhaa.Ab
open Go
set_option linter.unusedVariables false
set_option linter.unusedSimpArgs false
set_option maxHeartbeats 4000000
theorem ok_lawKept : Kn.ok Try.prog (kof [(14, q_implStartState), (15, q_lawAt), (13, q_implRunTurns), (16, q_specIsState), (17, q_implLinkTo), (19, q_implLinkFrom), (18, q_specRunProcess), (20, q_specIsPrefix)]) := kof_cons k_implStartState (kof_cons k_lawAt (kof_cons k_implRunTurns (kof_cons k_specIsState (kof_cons k_implLinkTo (kof_cons k_implLinkFrom (kof_cons k_specRunProcess (kof_cons k_specIsPrefix ((kof_nil _)))))))))
theorem en_MakeNetwork : Enters Try.prog 12 := enters_of Try.func12 rfl rfl
set_option maxHeartbeats 40000000 in
theorem lawKept_ac (bs : List Int) (hc1 : bs.length < 140737488355328) (hc2 : ∀ x ∈ bs, 0 ≤ x ∧ x ≤ 255) : AC Try.prog 3 [.row false 1 (bs.map bv)] (.bool true) := by
 have e_implStartState := e_implStartState
 have e_lawAt := e_lawAt
 have e_implRunTurns := e_implRunTurns
 have e_specIsState := e_specIsState
 have e_implLinkTo := e_implLinkTo
 have e_implLinkFrom := e_implLinkFrom
 have e_specRunProcess := e_specRunProcess
 have e_specIsPrefix := e_specIsPrefix
 have hivl := ivL_eq
 have hro := roLL_ovL
 have hpov := pureLL_ovL
 have hnov := noLoanLL_ovL
 have hrov := roLL_ovL
 have hriv := roLL_ivL
 have hpiv := pureLL_ivL
 have hri := roLL_iv
 have hra := roLL_oav
 have hivl := ivL_eq
 refine AC.of tab_ok Try.func3 rfl (Nat.le_of_ble_eq_true rfl) fun w0 S0 => ?_
 change G _ _ ⟨[(0, .row false 1 (bs.map bv))], [], 216⟩
 apply G.seq
 refine G.rg tab_ok ok_lawKept (hk := ?_)
 apply G.seq
 apply G.seq
 refine G.rg tab_ok ok_lawKept (hk := ?_)
 refine G.iff (h1 := fun h1 => ?_) (h2 := fun h1 => ?_)
 ·try simp only [zqz] at h1
  apply G.seq
  refine G.rg tab_ok ok_lawKept (hk := ?_)
  refine G.fin tab_ok (hr := ?_)
  rfl
 ·try simp only [zqz] at h1
  apply G.skip
  apply G.seq
  have hB : BW bs := ⟨hc2⟩
  have hl0 : bs.length < 1099511627776 := by omega
  refine G.rgN 1 tab_ok ok_lawKept (hk := ?_)
  refine G.cpX en_MakeNetwork (MakeNetwork_ax bs 6 hB hl0 (by omega) (by omega)) (h := fun y hy => ?_)
  obtain ⟨ps, ks⟩ := y
  simp only at hy
  obtain ⟨hnk, hpo, hks, hpl8⟩ := hy
  refine G.putX (h := ?_)
  refine G.rgC tab_ok ok_lawKept (hk := ?_)
  refine G.cellRo 1 0 1 0 rfl rfl rfl rfl (by simp) (by decide) (pureLL_kv _) (roLL_kv _) ?_
  simp only [withH, List.set_cons_succ, List.set_cons_zero]
  have hnw := po_nw hpo
  have hkw := ks_kw hks
  have hW := netOk_w hnk
  have hp12 := hW.pl
  have hk30 := hW.kl
  have hpq : ps.length < 3518437208781 := by omega
  have hkq : ks.length < 2513169434844 := by omega
  apply G.seq
  have hlb : bs.length ≤ 1099511627776 := by omega
  have ha1 := e_lawAt bs 1 hB hlb (by omega) (by omega)
  have hat1 := atO_ok hB (k := 1) (by omega)
  obtain ⟨most, hmo⟩ : ∃ x, atO bs 1 * 4 = x := ⟨_, rfl⟩
  have hwm : IntKind.i64.wrap most = most := wrap64 (by omega) (by omega)
  have hso : startO ps ks = ⟨actN ps.length, tkL ks, tkL ks, 0⟩ := by unfold startO; rw [if_pos hnk]
  have hok0 := s0_ok hnk
  obtain ⟨B1, B2, B3, B4, B5, B6⟩ := st_bnds hok0
  have hrt := e_implRunTurns ps ks (actN ps.length) (tkL ks) (tkL ks) 0 most hnw hkw (by omega) (by omega) B1 (by show (actN ps.length).length < _; have : (actN ps.length).length ≤ 12 := B2; omega) (by show (tkL ks).length < _; have : (tkL ks).length ≤ 30 := B4; omega) B3 (by show (tkL ks).length < _; have : (tkL ks).length ≤ 30 := B6; omega) B5 hok0
  obtain ⟨m, hrun, hmq⟩ := turnsO_run (most := most) hok0
  obtain ⟨js, hki⟩ := KI.runs hrun (KI.start hnk)
  have hst0 : s0 ps ks = (actN ps.length, tkL ks, tkL ks, 0) := rfl
  rw [hst0] at hrun hmq hki
  obtain ⟨T, hT⟩ : ∃ x, turnsO ps ks most (actN ps.length, tkL ks, tkL ks, 0) = x := ⟨_, rfl⟩
  rw [hT] at hrt hrun hmq hki
  obtain ⟨xz, qz, hz, tz⟩ := T
  simp only at hrt
  obtain ⟨C1, C2, C3, C4, C5, C6⟩ := st_bnds hki.ok
  simp only at C1 C2 C3 C4 C5 C6
  have hsz : stOk ps ks xz qz hz tz = true := hki.ok
  have D2 : xz.length < 4398046511104 := by omega
  have D4 : qz.length < 5864062014805 := by omega
  have D6 : hz.length < 5864062014805 := by omega
  obtain ⟨fq, hfq⟩ : ∃ x, firstC ps ks xz qz hz tz = x := ⟨_, rfl⟩
  rw [hfq] at hrt
  clear e_implRunTurns hT B1 B2 B3 B4 B5 B6 hst0
  apply G.joinR
  ·intro hk
   refine G.drawL (c := ⟨Try.prog, tab, _, _, _, _, _⟩) mixed tab_ok ok_lawKept 13 ?_ rfl
   refine AnyL.gg (n := 10) 3 [0, 1, 3] (h := ?_)
   refine AnyL.fk2 (n := 9) 2 10 (k1 := ?_) (k2 := ?_)
   ·skip
    refine AnyL.fk2 (n := 8) 4 10 (k1 := ?_) (k2 := ?_)
    ·skip
     refine AnyL.gg (n := 7) 1 [5] (h := ?_)
     refine AnyL.fk2 (n := 6) 6 10 (k1 := ?_) (k2 := ?_)
     ·skip
      refine AnyL.gg (n := 0) 6 [7, 8, 9, 10, 11, 12] (h := ?_)
      exact AnyL.ln [3, 4, 96, 97, 98, 99, 100, 101, 102, 103, 104, 105, 106, 107, 108, 138, 139, 140, 141, 142, 143, 144, 145, 146, 195, 196, 197, 198, 199, 200, 201, 202, 203, 204, 205, 206, 207] (h := hk)
     ·skip
      refine AnyL.gg (n := 0) 6 [6, 7, 8, 9, 11, 12] (h := ?_)
      exact AnyL.ln [3, 4, 96, 97, 98, 99, 100, 101, 102, 103, 104, 105, 106, 107, 108, 138, 139, 140, 141, 142, 143, 144, 145, 146, 195, 196, 197, 198, 199, 200, 201, 202, 203, 204, 205, 206, 207] (h := hk)
    ·skip
     refine AnyL.gg (n := 0) 8 [4, 5, 6, 7, 8, 9, 11, 12] (h := ?_)
     exact AnyL.ln [3, 4, 96, 97, 98, 99, 100, 101, 102, 103, 104, 105, 106, 107, 108, 138, 139, 140, 141, 142, 143, 144, 145, 146, 195, 196, 197, 198, 199, 200, 201, 202, 203, 204, 205, 206, 207] (h := hk)
   ·skip
    refine AnyL.gg (n := 0) 9 [2, 4, 5, 6, 7, 8, 9, 11, 12] (h := ?_)
    exact AnyL.ln [3, 4, 96, 97, 98, 99, 100, 101, 102, 103, 104, 105, 106, 107, 108, 138, 139, 140, 141, 142, 143, 144, 145, 146, 195, 196, 197, 198, 199, 200, 201, 202, 203, 204, 205, 206, 207] (h := hk)
  refine G.cellRo2 1 0 0 2 rfl rfl rfl rfl (by simp) (by decide) (pureLL_oav _) (roLL_oav _) ?_
  simp only [withH, List.set_cons_succ, List.set_cons_zero]
  refine G.cellRo2 1 0 1 3 rfl rfl rfl rfl (by simp) (by decide) (pureLL_ovL _) (roLL_ovL _) ?_
  simp only [withH, List.set_cons_succ, List.set_cons_zero]
  refine G.cellRo2 1 0 2 4 rfl rfl rfl rfl (by simp) (by decide) (pureLL_ovL _) (roLL_ovL _) ?_
  simp only [withH, List.set_cons_succ, List.set_cons_zero]
  apply G.seq
  apply G.seq
  refine G.rg tab_ok ok_lawKept (hk := ?_)
  refine G.iffF (h2 := ?_)
  apply G.skip
  apply G.seq
  apply G.seq
  have hwz := stOk_w hsz
  have hql : qz.length = ks.length := hwz.ql
  have hhl : hz.length = ks.length := hwz.hl
  have hq1 : qz.length ≤ ks.length := Nat.le_of_eq hql
  have hq2 : ks.length ≤ qz.length := Nat.le_of_eq hql.symm
  have hh1 : hz.length ≤ ks.length := Nat.le_of_eq hhl
  have hh2 : ks.length ≤ hz.length := Nat.le_of_eq hhl.symm
  clear hql hhl hrt
  refine G.rg tab_ok ok_lawKept (hk := ?_)
  apply G.block
  refine G.nm [3, 4, 42, 43, 44] (h := ?_)
  refine G.loopX (fun j : Nat => ⟨[(3, .ptr 0 0 0), (4, .ptr 1 0 0), (42, .row false 3 (ps.map pv)), (43, .int .i64 ps.length), (44, .int .i64 (j : Nat))], [some (2, [[.row false 3 (ps.map pv), .row false 5 (ks.map kv)]]), some (4, [[.row false 2 (xz.map av), .row false 1 (qz.map ivL), .row false 1 (hz.map ivL), .int .i64 tz]])], 216⟩) (fun j => j ≤ ps.length) (fun j => ps.length - j) (0) (Nat.zero_le _) (by simp) ?_
  intro j hj J2 hJ2
  have hwj : IntKind.i64.wrap ((j : Int) + 1) = ((j + 1 : Nat) : Int) := by rw [wrap64 (by omega) (by omega)]; omega
  apply G.seq
  refine G.rg tab_ok ok_lawKept (hk := ?_)
  apply G.seq
  refine G.iff (h1 := fun h3 => ?_) (h2 := fun h3 => ?_)
  ·try simp only [zqz] at h3
   apply G.skip
   apply G.seq
   apply G.block
   apply G.seq
   have hjp : j < ps.length := by omega
   have hpb := pg_bd hW.pg hjp
   have hok9 := pg_ok hnk hjp
   have hIWC := consK_IW hki.ok hjp
   have hsz1 := (net_small hnk).1 j hjp
   obtain ⟨⟨pi, po, pl⟩, hpe⟩ : ∃ x, ps.getD j default = x := ⟨_, rfl⟩
   rw [hpe] at hpb hok9 hIWC hsz1
   simp only at hpb hok9 hIWC hsz1
   obtain ⟨⟨hi0, hi3⟩, ⟨ho0, ho3⟩, _⟩ := hpb
   refine G.rg tab_ok ok_lawKept (hk := ?_)
   apply G.seq
   refine G.rg tab_ok ok_lawKept (hk := ?_)
   apply G.seq
   apply G.seq
   refine G.rg tab_ok ok_lawKept (hk := ?_)
   apply G.block
   refine G.nm [3, 4, 6, 7, 8, 9, 42, 43, 44] (h := ?_)
   refine G.loopX (fun p : Nat => ⟨[(3, .ptr 0 0 0), (4, .ptr 1 0 0), (6, .int .i64 (j : Nat)), (7, .ptr 2 0 0), (8, .sl 3 0 p), (9, .int .i64 (p : Nat)), (42, .row false 3 (ps.map pv)), (43, .int .i64 ps.length), (44, .int .i64 (j : Nat))], [some (2, [[.row false 3 (ps.map pv), .row false 5 (ks.map kv)]]), some (4, [[.row false 2 (xz.map av), .row false 1 (qz.map ivL), .row false 1 (hz.map ivL), .int .i64 tz]]), some (3, [[.int .i64 pi, .int .i64 po, .row false 4 (pl.map insv)]]), some (1, (consK ps ks (xz, qz, hz, tz) j p).map ivL)], 216⟩) (fun p => (p : Int) ≤ pi) (fun p => pi.toNat - p) (0) (hi0) (by simp [consK]) ?_
   intro p hp J hJ
   have hwp : IntKind.i64.wrap ((p : Int) + 1) = ((p + 1 : Nat) : Int) := by rw [wrap64 (by omega) (by omega)]; omega
   have hcl := consK_len (ps := ps) (ks := ks) (s := (xz, qz, hz, tz)) (k := j) p
   have hct : List.take p ((consK ps ks (xz, qz, hz, tz) j p).map ivL) = (consK ps ks (xz, qz, hz, tz) j p).map ivL := List.take_of_length_le (by simp [consK_len])
   have hq1 : ((p + 1 : Nat) : Int) ≤ 4611686018427387904 := by omega
   have hq2 : (p + 1) * 24 ≤ 70368744177664 := by omega
   apply G.seq
   apply G.seq
   refine G.rg tab_ok ok_lawKept (hk := ?_)
   refine G.iff (h1 := fun h4 => ?_) (h2 := fun h4 => ?_)
   ·try simp only [zqz] at h4
    apply G.skip
    apply G.seq
    apply G.block
    apply G.seq
    obtain ⟨a1, a2, a3⟩ := lTo_at hnk hjp (p := p) (by rw [hpe]; simp only; omega)
    have a0 := hW.to j hjp p (by rw [hpe]; simp only; omega)
    have hlk := toO_yes (p := (j : Int)) (q := (p : Int)) hnk (hasP_iff.2 ⟨by omega, by omega⟩) (by rw [Int.toNat_natCast, hpe]; simp only [inR, Bool.and_eq_true, decide_eq_true_eq]; omega)
    obtain ⟨L, hLe⟩ : ∃ L : Nat, onlyAt (isTo (j : Int) (p : Int)) ks = (L : Int) := ⟨(onlyAt (isTo (j : Int) (p : Int)) ks).toNat, by omega⟩
    have hLt : lTo ks j p = L := by unfold lTo; rw [hLe, Int.toNat_natCast]
    rw [hLt] at a1 a2 a3
    rw [hLe] at hlk
    have b1 : ¬ (L : Int) < 0 := by omega
    have b2 : ¬ (L : Int) ≥ (ks.length : Int) := by omega
    have b3 : (L : Int) < (ks.length : Int) := by omega
    have b4 : L < hz.length := by omega
    have b5 : (L : Int) < (hz.length : Int) := by omega
    have b6 : L < qz.length := by omega
    have b7 : (L : Int) < (qz.length : Int) := by omega
    have b8 : ((ks.getD L default).to == (j : Int)) = true := beq_iff_eq.2 a2
    have b9 : ((ks.getD L default).ip == (p : Int)) = true := beq_iff_eq.2 a3
    clear a0 a2 a3 hLe
    refine G.rg tab_ok ok_lawKept (hk := ?_)
    apply G.seq
    apply G.seq
    refine G.rgN 3 tab_ok ok_lawKept (hk := ?_)
    refine G.rdN 2 tab_ok ok_lawKept (hk := ?_)
    refine G.rdN 2 tab_ok ok_lawKept (hk := ?_)
    refine G.rdN 2 tab_ok ok_lawKept (hk := ?_)
    refine G.rdN 2 tab_ok ok_lawKept (hk := ?_)
    refine G.rdN 2 tab_ok ok_lawKept (hk := ?_)
    refine G.rdN 2 tab_ok ok_lawKept (hk := ?_)
    refine G.rdN 2 tab_ok ok_lawKept (hk := ?_)
    refine G.rdN 2 tab_ok ok_lawKept (hk := ?_)
    refine G.rdN 2 tab_ok ok_lawKept (hk := ?_)
    refine G.rdN 2 tab_ok ok_lawKept (hk := ?_)
    refine G.rdN 2 tab_ok ok_lawKept (hk := ?_)
    refine G.rdN 2 tab_ok ok_lawKept (hk := ?_)
    refine G.rdN 2 tab_ok ok_lawKept (hk := ?_)
    refine G.rdN 2 tab_ok ok_lawKept (hk := ?_)
    refine G.rdC tab_ok ok_lawKept (hk := ?_)
    refine G.iffF (h2 := ?_)
    apply G.skip
    apply G.seq
    refine G.fg [3, 4, 6, 7, 8, 9, 10, 42, 43, 44, 96, 97, 98, 99, 100, 101, 102, 103, 104, 105, 106, 107, 108] (hk := ?_)
    have hrl := rdL_le (s := (xz, qz, hz, tz)) hwz a1
    simp only at hrl
    obtain ⟨r, hr⟩ : ∃ r : Nat, rdL (xz, qz, hz, tz) L = (r : Int) := ⟨(rdL (xz, qz, hz, tz) L).toNat, by omega⟩
    have hsn := consK_snoc (ps := ps) (ks := ks) (s := (xz, qz, hz, tz)) (k := j) p
    simp only at hsn
    rw [hLt, hr, Int.toNat_natCast] at hsn
    rw [hr] at hrl
    have hre : ((hz.getD L default).length : Int) - ((qz.getD L default).length : Int) = (r : Int) := hr
    have hqb : (qz.getD L default).length < 17592186044416 := C3 _ (getD_mem0 b6)
    obtain ⟨h, hh⟩ : ∃ x, hz.getD L default = x := ⟨_, rfl⟩
    rw [hh] at hsn hrl hre
    have hhb : h.length < 17592186044416 := by rw [← hh]; exact C5 _ (getD_mem0 b4)
    have hwr : IntKind.i64.wrap (r : Int) = (r : Int) := wrap64 (by omega) (by omega)
    have hrc : r ≤ h.length := by omega
    have hrn : ¬ h.length < r := by omega
    have hrm : min r h.length = r := by omega
    have hrt2 : List.take r (h.map iv) = (h.take r).map iv := (List.map_take ..).symm
    have hrl2 : (h.take r).length = r := by rw [List.length_take]; exact hrm
    have hap : (consK ps ks (xz, qz, hz, tz) j p).map ivL ++ [[.row false 1 ((h.take r).map iv)]] = (consK ps ks (xz, qz, hz, tz) j (p + 1)).map ivL := by rw [← hsn, List.map_append]; rfl
    clear hsn hr
    refine G.dr mixed tab_ok ok_lawKept [0, 1, 2, 3, 4, 5, 6, 7, 8, 9, 10, 11, 12, 13] (hk := ?_)
    refine G.rg tab_ok ok_lawKept (hk := ?_)
    apply G.blk
    refine G.rg tab_ok ok_lawKept (hk := ?_)
    refine G.nm [3, 4, 6, 7, 8, 9, 42, 43, 44] (h := ?_)
    exact G.upto (hJ (p + 1) (by omega) (by omega)) (by simp [consK_len])
   ·try simp only [zqz] at h4
    refine G.exit rfl ?_
    apply G.seq
    obtain rfl : p = pi.toNat := by omega
    have hCl := consK_len (ps := ps) (ks := ks) (s := (xz, qz, hz, tz)) (k := j) pi.toNat
    refine G.freeze 8 3 rfl (by simp [look, consK_len]) ?_
    simp only [List.set_cons_succ, List.set_cons_zero, hriv]
    obtain ⟨C, hC⟩ : ∃ x, consK ps ks (xz, qz, hz, tz) j pi.toNat = x := ⟨_, rfl⟩
    have hkr := kept_run hki hjp
    rw [hpe] at hkr
    simp only at hkr
    rw [hC] at hIWC hkr hCl ⊢
    have hCl2 : (C.length : Int) = pi := hIWC.il
    have hLWC : LW C := fun r hr => by have := strLen (hIWC.it r hr); omega
    have hCb : C.length < 5864062014805 := by omega
    have hplb : pl.length < 4398046511104 := by omega
    have hrx := run_yes hok9 hIWC (fuel := 3000) (by omega) (by omega)
    have hstr := run_str hok9 hIWC (Int.toNat 3000) _ (PW.init hok9 hIWC) (ps0_str pi po)
    have hPW := run_PW hok9 hIWC (Int.toNat 3000) _ (PW.init hok9 hIWC)
    obtain ⟨R, hR⟩ : ∃ x, goP pl C (Int.toNat 3000) (ps0 pi po) = x := ⟨_, rfl⟩
    rw [hR] at hrx hstr hPW hkr
    obtain ⟨⟨zpc, zrs, zo, zu⟩, zw, zq⟩ := R
    simp only at hrx hstr hkr
    have hzol : (zo.length : Int) = po := hPW.ol
    have hzul : (zu.length : Int) = pi := hPW.ul
    have hLWo : LW zo := all_LW hstr
    have hC1 : C.length ≤ zu.length := by omega
    have hz1 : po ≤ (zo.length : Int) := by omega
    have hkh := hid hkr
    clear hPW hzul hCl2 hCl hzol hkr
    refine G.rg tab_ok ok_lawKept (hk := ?_)
    refine G.freeze 13 4 rfl (by simp [look]) ?_
    simp only [List.set_cons_succ, List.set_cons_zero, hrov]
    refine G.freeze 14 5 rfl (by simp [look]) ?_
    simp only [List.set_cons_succ, List.set_cons_zero, hri]
    apply G.seq
    apply G.seq
    rcases Classical.em (zw = 1) with c1 | c1
    ·skip
     subst c1
     refine G.rgN 3 tab_ok ok_lawKept (hk := ?_)
     refine G.rdN 2 tab_ok ok_lawKept (hk := ?_)
     refine G.rdC tab_ok ok_lawKept (hk := ?_)
     refine G.iffT (h1 := ?_)
     apply G.seq
     refine G.rg tab_ok ok_lawKept (hk := ?_)
     refine G.fin tab_ok (hr := ?_)
     rfl
    ·skip
     have hzw : zw ≠ 1 := c1
     have hzb1 : (zw == 1) = false := beq_eq_false_iff_ne.2 c1
     refine G.rgN 3 tab_ok ok_lawKept (hk := ?_)
     refine G.rdN 2 tab_ok ok_lawKept (hk := ?_)
     refine G.rdC tab_ok ok_lawKept (hk := ?_)
     refine G.iffF (h2 := ?_)
     apply G.skip
     apply G.seq
     apply G.seq
     refine G.rg tab_ok ok_lawKept (hk := ?_)
     apply G.block
     refine G.nm [3, 4, 6, 7, 8, 13, 14, 42, 43, 44, 134, 135] (h := ?_)
     refine G.loopX (fun q : Nat => ⟨[(3, .ptr 0 0 0), (4, .ptr 1 0 0), (6, .int .i64 (j : Nat)), (7, .ptr 2 0 0), (8, .row false 1 (C.map ivL)), (13, .row false 1 (zo.map ivL)), (14, .row false 1 (zu.map iv)), (42, .row false 3 (ps.map pv)), (43, .int .i64 ps.length), (44, .int .i64 (j : Nat)), (134, .int .i64 C.length), (135, .int .i64 (q : Nat))], [some (2, [[.row false 3 (ps.map pv), .row false 5 (ks.map kv)]]), some (4, [[.row false 2 (xz.map av), .row false 1 (qz.map ivL), .row false 1 (hz.map ivL), .int .i64 tz]]), some (3, [[.int .i64 pi, .int .i64 po, .row false 4 (pl.map insv)]])], 216⟩) (fun q => q ≤ C.length) (fun q => C.length - q) (0) (Nat.zero_le _) (by simp) ?_
     intro q hq J hJ
     have hwq : IntKind.i64.wrap ((q : Int) + 1) = ((q + 1 : Nat) : Int) := by rw [wrap64 (by omega) (by omega)]; omega
     apply G.seq
     refine G.rg tab_ok ok_lawKept (hk := ?_)
     apply G.seq
     refine G.iff (h1 := fun h8 => ?_) (h2 := fun h8 => ?_)
     ·try simp only [zqz] at h8
      apply G.skip
      apply G.seq
      apply G.block
      apply G.seq
      refine G.rg tab_ok ok_lawKept (hk := ?_)
      apply G.seq
      have hqC : q < C.length := by omega
      have hqu : q < zu.length := by omega
      have hqi : (q : Int) < pi := by have := hIWC.il; omega
      have hue := (hkh.un hzw).1 q hqi
      have hjz : (q : Int) < (zu.length : Int) := by omega
      have hue2 : (zu.getD q default == ((C.getD q default).length : Int)) = true := beq_iff_eq.2 hue
      clear hue
      refine G.dr mixed tab_ok ok_lawKept [0, 1, 2, 3, 4, 5, 6, 7, 8, 9] (hk := ?_)
      refine G.iffF (h2 := ?_)
      apply G.skip
      apply G.blk
      refine G.rg tab_ok ok_lawKept (hk := ?_)
      refine G.nm [3, 4, 6, 7, 8, 13, 14, 42, 43, 44, 134, 135] (h := ?_)
      exact G.upto (hJ (q + 1) (by omega) (by omega)) (by simp)
     ·try simp only [zqz] at h8
      refine G.exit rfl ?_
      apply G.seq
      refine G.rg tab_ok ok_lawKept (hk := ?_)
      apply G.block
      refine G.nm [3, 4, 6, 7, 13, 18, 42, 43, 44] (h := ?_)
      refine G.loopX (fun p : Nat => ⟨[(3, .ptr 0 0 0), (4, .ptr 1 0 0), (6, .int .i64 (j : Nat)), (7, .ptr 2 0 0), (13, .row false 1 (zo.map ivL)), (18, .int .i64 (p : Nat)), (42, .row false 3 (ps.map pv)), (43, .int .i64 ps.length), (44, .int .i64 (j : Nat))], [some (2, [[.row false 3 (ps.map pv), .row false 5 (ks.map kv)]]), some (4, [[.row false 2 (xz.map av), .row false 1 (qz.map ivL), .row false 1 (hz.map ivL), .int .i64 tz]]), some (3, [[.int .i64 pi, .int .i64 po, .row false 4 (pl.map insv)]])], 216⟩) (fun p => (p : Int) ≤ po) (fun p => po.toNat - p) (0) (ho0) (by simp) ?_
      intro p hp J hJ
      have hwp : IntKind.i64.wrap ((p : Int) + 1) = ((p + 1 : Nat) : Int) := by rw [wrap64 (by omega) (by omega)]; omega
      apply G.seq
      apply G.seq
      refine G.rg tab_ok ok_lawKept (hk := ?_)
      refine G.iff (h1 := fun h10 => ?_) (h2 := fun h10 => ?_)
      ·try simp only [zqz] at h10
       apply G.skip
       apply G.seq
       apply G.block
       apply G.seq
       obtain ⟨a1, a2, a3⟩ := lFr_at hnk hjp (q := p) (by rw [hpe]; simp only; omega)
       have a0 := hW.fr j hjp p (by rw [hpe]; simp only; omega)
       have hlk := frO_yes (p := (j : Int)) (q := (p : Int)) hnk (hasP_iff.2 ⟨by omega, by omega⟩) (by rw [Int.toNat_natCast, hpe]; simp only [inR, Bool.and_eq_true, decide_eq_true_eq]; omega)
       obtain ⟨L, hLe⟩ : ∃ L : Nat, onlyAt (isFr (j : Int) (p : Int)) ks = (L : Int) := ⟨(onlyAt (isFr (j : Int) (p : Int)) ks).toNat, by omega⟩
       have hLt : lFr ks j p = L := by unfold lFr; rw [hLe, Int.toNat_natCast]
       rw [hLt] at a1 a2 a3
       rw [hLe] at hlk
       have b1 : ¬ (L : Int) < 0 := by omega
       have b2 : ¬ (L : Int) ≥ (ks.length : Int) := by omega
       have b3 : (L : Int) < (ks.length : Int) := by omega
       have b4 : L < hz.length := by omega
       have b5 : (L : Int) < (hz.length : Int) := by omega
       have b6 : L < qz.length := by omega
       have b7 : (L : Int) < (qz.length : Int) := by omega
       have b8 : ((ks.getD L default).fr == (j : Int)) = true := beq_iff_eq.2 a2
       have b9 : ((ks.getD L default).ou == (p : Int)) = true := beq_iff_eq.2 a3
       clear a0 a2 a3 hLe
       refine G.rg tab_ok ok_lawKept (hk := ?_)
       apply G.seq
       apply G.seq
       refine G.rgN 3 tab_ok ok_lawKept (hk := ?_)
       refine G.rdN 2 tab_ok ok_lawKept (hk := ?_)
       refine G.rdN 2 tab_ok ok_lawKept (hk := ?_)
       refine G.rdN 2 tab_ok ok_lawKept (hk := ?_)
       refine G.rdN 2 tab_ok ok_lawKept (hk := ?_)
       refine G.rdN 2 tab_ok ok_lawKept (hk := ?_)
       refine G.rdN 2 tab_ok ok_lawKept (hk := ?_)
       refine G.rdN 2 tab_ok ok_lawKept (hk := ?_)
       refine G.rdN 2 tab_ok ok_lawKept (hk := ?_)
       refine G.rdN 2 tab_ok ok_lawKept (hk := ?_)
       refine G.rdN 2 tab_ok ok_lawKept (hk := ?_)
       refine G.rdN 2 tab_ok ok_lawKept (hk := ?_)
       refine G.rdN 2 tab_ok ok_lawKept (hk := ?_)
       refine G.rdN 2 tab_ok ok_lawKept (hk := ?_)
       refine G.rdN 2 tab_ok ok_lawKept (hk := ?_)
       refine G.rdC tab_ok ok_lawKept (hk := ?_)
       refine G.iffF (h2 := ?_)
       apply G.skip
       apply G.seq
       refine G.fg [3, 4, 6, 7, 13, 18, 19, 42, 43, 44, 195, 196, 197, 198, 199, 200, 201, 202, 203, 204, 205, 206, 207] (hk := ?_)
       have hse := sent_eq hki.ok a1
       have hq3 := (hkh.un hzw).2 p (by omega)
       rw [hLt] at hq3
       simp only at hse
       have hst5 : strOk (hz.getD L default) = true := (link_of (hwz.lnk L a1)).2.1
       obtain ⟨h, hh⟩ : ∃ x, hz.getD L default = x := ⟨_, rfl⟩
       rw [hh] at hse hst5
       have hhb : h.length < 17592186044416 := by rw [← hh]; exact C5 _ (getD_mem0 b4)
       have hsd : snL ks (xz, qz, hz, tz) L = h.drop (ks.getD L default).tk.length := by unfold snL; simp only; rw [hh]
       have htl : (ks.getD L default).tk.length ≤ h.length := by rw [hse, List.length_append]; omega
       have htli : ((ks.getD L default).tk.length : Int) ≤ (h.length : Int) := by omega
       obtain ⟨e, he⟩ : ∃ x, h.drop (ks.getD L default).tk.length = x := ⟨_, rfl⟩
       rw [hsd, he] at hq3
       have hdr : List.drop (ks.getD L default).tk.length (h.map iv) = e.map iv := by rw [← List.map_drop, he]
       have htf : List.take h.length (h.map iv) = h.map iv := List.take_of_length_le (by simp)
       have hes : strOk e = true := by
        rw [← he]
        simp only [strOk, Bool.and_eq_true, decide_eq_true_eq, List.all_eq_true, List.length_drop] at hst5 ⊢
        exact ⟨fun y hy => hst5.1 y (List.mem_of_mem_drop hy), by omega⟩
       have heb : e.length < 17592186044416 := by have := strLen hes; omega
       have hpz : p < zo.length := by omega
       have hpzi : (p : Int) < (zo.length : Int) := by omega
       have hzs := List.all_eq_true.1 hstr _ (getD_mem0 hpz)
       have hzb : (zo.getD p default).length < 17592186044416 := hLWo _ (getD_mem0 hpz)
       have hpf : pfxB e (zo.getD p default) = true := by unfold pfxB; rw [hes, hzs, begB_pfx.2 hq3]; rfl
       clear hse hst5 hsd he hes hzs hq3
       refine G.dr mixed tab_ok ok_lawKept [0, 1, 2, 3, 4, 5, 6, 7, 8, 9, 10, 11, 12, 13] (hk := ?_)
       apply G.seq
       refine G.rg tab_ok ok_lawKept (hk := ?_)
       refine G.iffF (h2 := ?_)
       apply G.skip
       apply G.blk
       refine G.rg tab_ok ok_lawKept (hk := ?_)
       refine G.nm [3, 4, 6, 7, 13, 18, 42, 43, 44] (h := ?_)
       exact G.upto (hJ (p + 1) (by omega) (by omega)) (by simp)
      ·try simp only [zqz] at h10
       refine G.exit rfl ?_
       apply G.blk
       refine G.rg tab_ok ok_lawKept (hk := ?_)
       refine G.nm [3, 4, 42, 43, 44] (h := ?_)
       exact G.upto (hJ2 (j + 1) (by omega) (by omega)) (by simp)
  ·try simp only [zqz] at h3
   refine G.exit rfl ?_
   apply G.seq
   refine G.rg tab_ok ok_lawKept (hk := ?_)
   refine G.fin tab_ok (hr := ?_)
   rfl
end Go.Proofs.Ytimgfinlbhodhaa.Ab
