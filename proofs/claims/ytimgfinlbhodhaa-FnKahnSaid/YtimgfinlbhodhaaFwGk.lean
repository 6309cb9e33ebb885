/- Walks of functions of the program, and the plain definitions. -/
import Derived.Test.YtimgfinlbhodhaaAbWork2
import Derived.Test.YtimgfinlbhodhaaFwGf
namespace Go.Proofs.Ytimgfinlbhodhaa.Ab
open Go
set_option linter.unusedVariables false
set_option linter.unusedSimpArgs false
set_option maxHeartbeats 4000000
theorem ok_r_wants : Kn.ok Try.prog (kof [(100, q_implWant)]) := kof_cons k_implWant ((kof_nil _))
theorem r_wants_ac (ps : List PG) (ks : List LK) (xs : List AT) (qs : List (List Int)) (hs : List (List Int)) (t : Int) (k : Nat) (hc1 : stOk ps ks xs qs hs t = true) (hc2 : k < ps.length) : AC Try.prog 127 [.rp 9 [[.row false 3 (ps.map pv), .row false 5 (ks.map kv), .row false 2 (xs.map av), .row false 1 (qs.map ivL), .row false 1 (hs.map ivL), .int .i64 t, .row false 1 ((toT ps ks ks.length).map ivL), .row false 1 ((frT ps ks ks.length).map ivL), .nils]] 0 0, .int .i64 (k : Int)] (.tup [.int .i64 (wAtK ps xs k).1, .int .i64 (lnkK ps ks xs k)]) := by
 have e_implWant := e_implWant
 have hst := stOk_w hc1
 have hnw := netOk_w hst.net
 have hp12 := hnw.pl
 have hk30 := hnw.kl
 have hx1 : xs.length ≤ ps.length := Nat.le_of_eq hst.xl
 have hx2 : ps.length ≤ xs.length := Nat.le_of_eq hst.xl.symm
 have hq1 : qs.length ≤ ks.length := Nat.le_of_eq hst.ql
 have hq2 : ks.length ≤ qs.length := Nat.le_of_eq hst.ql.symm
 have hh1 : hs.length ≤ ks.length := Nat.le_of_eq hst.hl
 have hh2 : ks.length ≤ hs.length := Nat.le_of_eq hst.hl.symm
 have ht0 := hst.t0
 have ht1 := hst.t1
 have hsq := st_q hst
 have hsh := st_h hst
 have hsa := st_a hst
 have hkw := net_KW hst.net
 have hksB : ks.length < 2513169434844 := by omega
 have hpsB : ps.length < 3518437208781 := by omega
 have hft : (false == true) = false := rfl
 have htf : (true == false) = false := rfl
 have hivl := ivL_eq
 have hro := roLL_ovL
 have hpov := pureLL_ovL
 have hnov := noLoanLL_ovL
 have hpiv := pureLL_ivL
 have hriv := roLL_ivL
 have hkp : k < ps.length := hc2
 have hkx : k < xs.length := by omega
 have hki : (k : Int) < (ps.length : Int) := by omega
 have hkj : (k : Int) < (xs.length : Int) := by omega
 have hpc := st_pc hst hkp
 have hpc0 := hpc.1
 have hpc1 := hpc.2
 clear hpc
 have hwe : wantK (ps.getD k default).l (xs.getD k default).pc = wAtK ps xs k := rfl
 refine AC.of tab_ok Try.func127 rfl (Nat.le_of_ble_eq_true rfl) fun w0 S0 => ?_
 change G _ _ ⟨[(0, .rp 9 [[.row false 3 (ps.map pv), .row false 5 (ks.map kv), .row false 2 (xs.map av), .row false 1 (qs.map ivL), .row false 1 (hs.map ivL), .int .i64 t, .row false 1 ((toT ps ks ks.length).map ivL), .row false 1 ((frT ps ks ks.length).map ivL), .nils]] 0 0), (1, .int .i64 (k : Int))], [], 56⟩
 apply G.seq
 refine G.rg tab_ok ok_r_wants (hk := ?_)
 apply G.seq
 refine G.dr mixed tab_ok ok_r_wants [0, 1, 2, 3, 4, 5, 6, 7, 8, 9, 10, 11, 12, 13, 14, 15, 16, 17, 18, 19, 20, 21] (hk := ?_)
 apply G.seq
 apply G.seq
 refine G.rg tab_ok ok_r_wants (hk := ?_)
 apply G.block
 apply G.seq
 refine G.rg tab_ok ok_r_wants (hk := ?_)
 refine G.fg [0, 1, 6, 7, 28, 29, 31, 32, 33, 34, 35, 36, 37, 38, 39, 40, 41, 44, 45, 46, 47, 48, 49, 50, 51, 52, 53, 54] (hk := ?_)
 refine G.iff (h1 := fun h1 => ?_) (h2 := fun h1 => ?_)
 ·try simp only [zqz] at h1
  apply G.seq
  obtain ⟨p0, p1, p2, p3⟩ := want_two hst hkp h1
  have q1 := toT_row (ps := ps) (ks := ks) hkp ks.length
  have q2 : k < (toT ps ks ks.length).length := by rw [toT_len]; exact hkp
  have q3 : (k : Int) < (((toT ps ks ks.length).length : Nat) : Int) := by omega
  have q4 : (wAtK ps xs k).2 < ((((toT ps ks ks.length).getD k default).length : Nat) : Int) := by omega
  have q5 : (wAtK ps xs k).2.toNat < ((toT ps ks ks.length).getD k default).length := by omega
  have q6 := toT_get hst.net (q := (wAtK ps xs k).2.toNat) hkp (by omega)
  rw [show (((wAtK ps xs k).2.toNat : Nat) : Int) = (wAtK ps xs k).2 by omega] at q6
  clear q1 p1
  refine G.dr mixed tab_ok ok_r_wants [0, 1, 2, 3, 4, 5, 6, 7, 8, 9, 10, 11, 12] (hk := ?_)
  refine G.fin tab_ok (hr := ?_)
  simp only [oneOrTup]
  rw [lnk_2 h1, h1]
 ·try simp only [zqz] at h1
  apply G.seq
  refine G.rg tab_ok ok_r_wants (hk := ?_)
  refine G.iff (h1 := fun h2 => ?_) (h2 := fun h2 => ?_)
  ·try simp only [zqz] at h2
   apply G.seq
   obtain ⟨p0, p1, p2, p3⟩ := want_three hst hkp h2
   have q1 := frT_row (ps := ps) (ks := ks) hkp ks.length
   have q2 : k < (frT ps ks ks.length).length := by rw [frT_len]; exact hkp
   have q3 : (k : Int) < (((frT ps ks ks.length).length : Nat) : Int) := by omega
   have q4 : (wAtK ps xs k).2 < ((((frT ps ks ks.length).getD k default).length : Nat) : Int) := by omega
   have q5 : (wAtK ps xs k).2.toNat < ((frT ps ks ks.length).getD k default).length := by omega
   have q6 := frT_get hst.net (q := (wAtK ps xs k).2.toNat) hkp (by omega)
   rw [show (((wAtK ps xs k).2.toNat : Nat) : Int) = (wAtK ps xs k).2 by omega] at q6
   clear q1 p1
   refine G.dr mixed tab_ok ok_r_wants [0, 1, 2, 3, 4, 5, 6, 7, 8, 9, 10, 11, 12] (hk := ?_)
   refine G.fin tab_ok (hr := ?_)
   simp only [oneOrTup]
   rw [lnk_3 h2, h2]
  ·try simp only [zqz] at h2
   apply G.skip
   apply G.blk
   apply G.seq
   refine G.rg tab_ok ok_r_wants (hk := ?_)
   refine G.fin tab_ok (hr := ?_)
   simp only [oneOrTup]
   rw [lnk_n h1 h2]
def r_r_wants (xs0 : List A) (rr : A) : Prop := ∃ (ps : List PG) (ks : List LK) (xs : List AT) (qs : List (List Int)) (hs : List (List Int)) (t : Int) (k : Nat), (stOk ps ks xs qs hs t = true) ∧ (k < ps.length) ∧ xs0 = [.rp 9 [[.row false 3 (ps.map pv), .row false 5 (ks.map kv), .row false 2 (xs.map av), .row false 1 (qs.map ivL), .row false 1 (hs.map ivL), .int .i64 t, .row false 1 ((toT ps ks ks.length).map ivL), .row false 1 ((frT ps ks ks.length).map ivL), .nils]] 0 0, .int .i64 (k : Int)] ∧ rr = .tup [.int .i64 (wAtK ps xs k).1, .int .i64 (lnkK ps ks xs k)]
noncomputable def q_r_wants : List A → Option A := kgr r_r_wants
theorem k_r_wants : KOk Try.prog (127, q_r_wants) := kgr_ok (enters_of Try.func127 rfl rfl) (by rintro xs0 rr ⟨ps, ks, xs, qs, hs, t, k, hc1, hc2, rfl, rfl⟩; exact r_wants_ac ps ks xs qs hs t k hc1 hc2)
theorem e_r_wants : ∀ (ps : List PG) (ks : List LK) (xs : List AT) (qs : List (List Int)) (hs : List (List Int)) (t : Int) (k : Nat), (stOk ps ks xs qs hs t = true) → (k < ps.length) → q_r_wants [.rp 9 [[.row false 3 (ps.map pv), .row false 5 (ks.map kv), .row false 2 (xs.map av), .row false 1 (qs.map ivL), .row false 1 (hs.map ivL), .int .i64 t, .row false 1 ((toT ps ks ks.length).map ivL), .row false 1 ((frT ps ks ks.length).map ivL), .nils]] 0 0, .int .i64 (k : Int)] = some (.tup [.int .i64 (wAtK ps xs k).1, .int .i64 (lnkK ps ks xs k)]) := by
 intro ps ks xs qs hs t k hc1 hc2
 refine kgr_eq (fun xs0 rr r2 h h2 => ?_) ⟨ps, ks, xs, qs, hs, t, k, hc1, hc2, rfl, rfl⟩
 obtain ⟨ps1, ks1, xs1, qs1, hs1, t1, k1, _, _, e1, rfl⟩ := h; obtain ⟨ps2, ks2, xs2, qs2, hs2, t2, k2, _, _, e2, rfl⟩ := h2
 rw [e1] at e2
 simp only [List.cons.injEq, A.int.injEq, A.rp.injEq, A.row.injEq, pv_inj, kv_inj, av_inj, ivL_inj, true_and, and_true, Int.natCast_inj] at e2
 obtain ⟨⟨e3, e4, e5, e6, e7, e8, _, _⟩, e9⟩ := e2
 subst e3 e4 e5 e6 e7 e8 e9
 rfl
theorem r_isProcess_ac (ps : List PG) (ks : List LK) (xs : List AT) (qs : List (List Int)) (hs : List (List Int)) (t : Int) (k : Int) (hc1 : stOk ps ks xs qs hs t = true) : AC Try.prog 83 [.rp 9 [[.row false 3 (ps.map pv), .row false 5 (ks.map kv), .row false 2 (xs.map av), .row false 1 (qs.map ivL), .row false 1 (hs.map ivL), .int .i64 t, .row false 1 ((toT ps ks ks.length).map ivL), .row false 1 ((frT ps ks ks.length).map ivL), .nils]] 0 0, .int .i64 k] (.bool (hasP ps k)) := by
 have hst := stOk_w hc1
 have hnw := netOk_w hst.net
 have hp12 := hnw.pl
 have hk30 := hnw.kl
 have hx1 : xs.length ≤ ps.length := Nat.le_of_eq hst.xl
 have hx2 : ps.length ≤ xs.length := Nat.le_of_eq hst.xl.symm
 have hq1 : qs.length ≤ ks.length := Nat.le_of_eq hst.ql
 have hq2 : ks.length ≤ qs.length := Nat.le_of_eq hst.ql.symm
 have hh1 : hs.length ≤ ks.length := Nat.le_of_eq hst.hl
 have hh2 : ks.length ≤ hs.length := Nat.le_of_eq hst.hl.symm
 have ht0 := hst.t0
 have ht1 := hst.t1
 have hsq := st_q hst
 have hsh := st_h hst
 have hsa := st_a hst
 have hkw := net_KW hst.net
 have hksB : ks.length < 2513169434844 := by omega
 have hpsB : ps.length < 3518437208781 := by omega
 have hft : (false == true) = false := rfl
 have htf : (true == false) = false := rfl
 have hivl := ivL_eq
 have hro := roLL_ovL
 have hpov := pureLL_ovL
 have hnov := noLoanLL_ovL
 have hpiv := pureLL_ivL
 have hriv := roLL_ivL
 refine AC.of tab_ok Try.func83 rfl (Nat.le_of_ble_eq_true rfl) fun w0 S0 => ?_
 change G _ _ ⟨[(0, .rp 9 [[.row false 3 (ps.map pv), .row false 5 (ks.map kv), .row false 2 (xs.map av), .row false 1 (qs.map ivL), .row false 1 (hs.map ivL), .int .i64 t, .row false 1 ((toT ps ks ks.length).map ivL), .row false 1 ((frT ps ks ks.length).map ivL), .nils]] 0 0), (1, .int .i64 k)], [], 17⟩
 apply G.seq
 refine G.rg tab_ok (kof_nil _) (hk := ?_)
 apply G.seq
 refine G.rg tab_ok (kof_nil _) (hk := ?_)
 refine G.fin tab_ok (hr := ?_)
 simp only [oneOrTup]
 congr 1
def r_r_isProcess (xs0 : List A) (rr : A) : Prop := ∃ (ps : List PG) (ks : List LK) (xs : List AT) (qs : List (List Int)) (hs : List (List Int)) (t : Int) (k : Int), (stOk ps ks xs qs hs t = true) ∧ xs0 = [.rp 9 [[.row false 3 (ps.map pv), .row false 5 (ks.map kv), .row false 2 (xs.map av), .row false 1 (qs.map ivL), .row false 1 (hs.map ivL), .int .i64 t, .row false 1 ((toT ps ks ks.length).map ivL), .row false 1 ((frT ps ks ks.length).map ivL), .nils]] 0 0, .int .i64 k] ∧ rr = .bool (hasP ps k)
noncomputable def q_r_isProcess : List A → Option A := kgr r_r_isProcess
theorem k_r_isProcess : KOk Try.prog (83, q_r_isProcess) := kgr_ok (enters_of Try.func83 rfl rfl) (by rintro xs0 rr ⟨ps, ks, xs, qs, hs, t, k, hc1, rfl, rfl⟩; exact r_isProcess_ac ps ks xs qs hs t k hc1)
theorem e_r_isProcess : ∀ (ps : List PG) (ks : List LK) (xs : List AT) (qs : List (List Int)) (hs : List (List Int)) (t : Int) (k : Int), (stOk ps ks xs qs hs t = true) → q_r_isProcess [.rp 9 [[.row false 3 (ps.map pv), .row false 5 (ks.map kv), .row false 2 (xs.map av), .row false 1 (qs.map ivL), .row false 1 (hs.map ivL), .int .i64 t, .row false 1 ((toT ps ks ks.length).map ivL), .row false 1 ((frT ps ks ks.length).map ivL), .nils]] 0 0, .int .i64 k] = some (.bool (hasP ps k)) := by
 intro ps ks xs qs hs t k hc1
 refine kgr_eq (fun xs0 rr r2 h h2 => ?_) ⟨ps, ks, xs, qs, hs, t, k, hc1, rfl, rfl⟩
 obtain ⟨ps1, ks1, xs1, qs1, hs1, t1, k1, _, e1, rfl⟩ := h; obtain ⟨ps2, ks2, xs2, qs2, hs2, t2, k2, _, e2, rfl⟩ := h2
 rw [e1] at e2
 simp only [List.cons.injEq, A.int.injEq, A.rp.injEq, A.row.injEq, pv_inj, kv_inj, av_inj, ivL_inj, true_and, and_true, Int.natCast_inj] at e2
 obtain ⟨⟨e3, e4, e5, e6, e7, e8, _, _⟩, e9⟩ := e2
 subst e3 e4 e5 e6 e7 e8 e9
 rfl
theorem ok_r_can : Kn.ok Try.prog (kof [(127, q_r_wants)]) := kof_cons k_r_wants ((kof_nil _))
theorem r_can_ac (ps : List PG) (ks : List LK) (xs : List AT) (qs : List (List Int)) (hs : List (List Int)) (t : Int) (k : Nat) (hc1 : stOk ps ks xs qs hs t = true) (hc2 : k < ps.length) : AC Try.prog 84 [.rp 9 [[.row false 3 (ps.map pv), .row false 5 (ks.map kv), .row false 2 (xs.map av), .row false 1 (qs.map ivL), .row false 1 (hs.map ivL), .int .i64 t, .row false 1 ((toT ps ks ks.length).map ivL), .row false 1 ((frT ps ks ks.length).map ivL), .nils]] 0 0, .int .i64 (k : Int)] (.bool (canK ps ks xs qs hs t k)) := by
 have e_r_wants := e_r_wants
 have hst := stOk_w hc1
 have hnw := netOk_w hst.net
 have hp12 := hnw.pl
 have hk30 := hnw.kl
 have hx1 : xs.length ≤ ps.length := Nat.le_of_eq hst.xl
 have hx2 : ps.length ≤ xs.length := Nat.le_of_eq hst.xl.symm
 have hq1 : qs.length ≤ ks.length := Nat.le_of_eq hst.ql
 have hq2 : ks.length ≤ qs.length := Nat.le_of_eq hst.ql.symm
 have hh1 : hs.length ≤ ks.length := Nat.le_of_eq hst.hl
 have hh2 : ks.length ≤ hs.length := Nat.le_of_eq hst.hl.symm
 have ht0 := hst.t0
 have ht1 := hst.t1
 have hsq := st_q hst
 have hsh := st_h hst
 have hsa := st_a hst
 have hkw := net_KW hst.net
 have hksB : ks.length < 2513169434844 := by omega
 have hpsB : ps.length < 3518437208781 := by omega
 have hft : (false == true) = false := rfl
 have htf : (true == false) = false := rfl
 have hivl := ivL_eq
 have hro := roLL_ovL
 have hpov := pureLL_ovL
 have hnov := noLoanLL_ovL
 have hpiv := pureLL_ivL
 have hriv := roLL_ivL
 have hkp : k < ps.length := hc2
 have hkx : k < xs.length := by omega
 have hki : (k : Int) < (ps.length : Int) := by omega
 have hkj : (k : Int) < (xs.length : Int) := by omega
 have hpc := st_pc hst hkp
 have hpc0 := hpc.1
 have hpc1 := hpc.2
 clear hpc
 have b00 : ((0 : Int) == 0) = true := rfl
 have b01 : ((0 : Int) == 1) = false := rfl
 have b02 : ((0 : Int) == 2) = false := rfl
 have b03 : ((0 : Int) == 3) = false := rfl
 have b10 : ((1 : Int) == 0) = false := rfl
 have b11 : ((1 : Int) == 1) = true := rfl
 have b12 : ((1 : Int) == 2) = false := rfl
 have b13 : ((1 : Int) == 3) = false := rfl
 have b20 : ((2 : Int) == 0) = false := rfl
 have b21 : ((2 : Int) == 1) = false := rfl
 have b22 : ((2 : Int) == 2) = true := rfl
 have b23 : ((2 : Int) == 3) = false := rfl
 have b30 : ((3 : Int) == 0) = false := rfl
 have b31 : ((3 : Int) == 1) = false := rfl
 have b32 : ((3 : Int) == 2) = false := rfl
 have b33 : ((3 : Int) == 3) = true := rfl
 refine AC.of tab_ok Try.func84 rfl (Nat.le_of_ble_eq_true rfl) fun w0 S0 => ?_
 change G _ _ ⟨[(0, .rp 9 [[.row false 3 (ps.map pv), .row false 5 (ks.map kv), .row false 2 (xs.map av), .row false 1 (qs.map ivL), .row false 1 (hs.map ivL), .int .i64 t, .row false 1 ((toT ps ks ks.length).map ivL), .row false 1 ((frT ps ks ks.length).map ivL), .nils]] 0 0), (1, .int .i64 (k : Int))], [], 50⟩
 apply G.seq
 refine G.rg tab_ok ok_r_can (hk := ?_)
 apply G.seq
 rcases w_cases (ps := ps) (xs := xs) k with c0 | c0 | c0 | c0
 ·skip
  obtain ⟨w, hw⟩ : ∃ w, wAtK ps xs k = w := ⟨_, rfl⟩
  obtain ⟨a, b⟩ := w
  rw [hw] at c0
  simp only at c0
  subst c0
  have hw1 : (wAtK ps xs k).1 = 0 := by rw [hw]
  obtain ⟨L, hL⟩ : ∃ x, lnkK ps ks xs k = x := ⟨_, rfl⟩
  refine G.rg tab_ok ok_r_can (hk := ?_)
  apply G.seq
  apply G.block
  apply G.seq
  refine G.rg tab_ok ok_r_can (hk := ?_)
  refine G.iffT (h1 := ?_)
  apply G.seq
  refine G.rg tab_ok ok_r_can (hk := ?_)
  refine G.fin tab_ok (hr := ?_)
  simp only [oneOrTup]
  congr 1
  exact (can_0 hw1).symm
 ·skip
  obtain ⟨w, hw⟩ : ∃ w, wAtK ps xs k = w := ⟨_, rfl⟩
  obtain ⟨a, b⟩ := w
  rw [hw] at c0
  simp only at c0
  subst c0
  have hw1 : (wAtK ps xs k).1 = 1 := by rw [hw]
  obtain ⟨L, hL⟩ : ∃ x, lnkK ps ks xs k = x := ⟨_, rfl⟩
  refine G.rg tab_ok ok_r_can (hk := ?_)
  apply G.seq
  apply G.block
  apply G.seq
  refine G.rg tab_ok ok_r_can (hk := ?_)
  refine G.fg [0, 5, 6, 13] (hk := ?_)
  refine G.iff (h1 := fun h2 => ?_) (h2 := fun h2 => ?_)
  ·try simp only [zqz] at h2
   apply G.seq
   refine G.rg tab_ok ok_r_can (hk := ?_)
   refine G.fin tab_ok (hr := ?_)
   simp only [oneOrTup]
   congr 1
   exact (can_t (by omega)).symm
  ·try simp only [zqz] at h2
   apply G.seq
   refine G.rg tab_ok ok_r_can (hk := ?_)
   refine G.iffF (h2 := ?_)
   apply G.seq
   refine G.rg tab_ok ok_r_can (hk := ?_)
   refine G.iffF (h2 := ?_)
   apply G.skip
   apply G.blk
   apply G.seq
   refine G.rg tab_ok ok_r_can (hk := ?_)
   refine G.fin tab_ok (hr := ?_)
   simp only [oneOrTup]
   congr 1
   exact (can_1 hw1 (by omega)).symm
 ·skip
  obtain ⟨w, hw⟩ : ∃ w, wAtK ps xs k = w := ⟨_, rfl⟩
  obtain ⟨a, b⟩ := w
  rw [hw] at c0
  simp only at c0
  subst c0
  have hw1 : (wAtK ps xs k).1 = 2 := by rw [hw]
  obtain ⟨L, hL⟩ : ∃ x, lnkK ps ks xs k = x := ⟨_, rfl⟩
  obtain ⟨_, _, g1, g2⟩ := want_two hst hkp hw1
  rw [← lnk_2 (ks := ks) hw1, hL] at g1 g2
  have g3 : L < (qs.length : Int) := by omega
  have g4 : L < (hs.length : Int) := by omega
  have g5 : L.toNat < qs.length := by omega
  have g6 : L.toNat < hs.length := by omega
  refine G.rg tab_ok ok_r_can (hk := ?_)
  apply G.seq
  apply G.block
  apply G.seq
  refine G.rg tab_ok ok_r_can (hk := ?_)
  refine G.fg [0, 5, 6, 13] (hk := ?_)
  refine G.iff (h1 := fun h5 => ?_) (h2 := fun h5 => ?_)
  ·try simp only [zqz] at h5
   apply G.seq
   refine G.rg tab_ok ok_r_can (hk := ?_)
   refine G.fin tab_ok (hr := ?_)
   simp only [oneOrTup]
   congr 1
   exact (can_t (by omega)).symm
  ·try simp only [zqz] at h5
   apply G.seq
   refine G.rg tab_ok ok_r_can (hk := ?_)
   refine G.iffT (h1 := ?_)
   apply G.seq
   refine G.rg tab_ok ok_r_can (hk := ?_)
   refine G.fin tab_ok (hr := ?_)
   simp only [oneOrTup]
   rw [can_2 hw1 (by omega), hL]
 ·skip
  obtain ⟨w, hw⟩ : ∃ w, wAtK ps xs k = w := ⟨_, rfl⟩
  obtain ⟨a, b⟩ := w
  rw [hw] at c0
  simp only at c0
  subst c0
  have hw1 : (wAtK ps xs k).1 = 3 := by rw [hw]
  obtain ⟨L, hL⟩ : ∃ x, lnkK ps ks xs k = x := ⟨_, rfl⟩
  obtain ⟨_, _, g1, g2⟩ := want_three hst hkp hw1
  rw [← lnk_3 (ks := ks) hw1, hL] at g1 g2
  have g3 : L < (qs.length : Int) := by omega
  have g4 : L < (hs.length : Int) := by omega
  have g5 : L.toNat < qs.length := by omega
  have g6 : L.toNat < hs.length := by omega
  refine G.rg tab_ok ok_r_can (hk := ?_)
  apply G.seq
  apply G.block
  apply G.seq
  refine G.rg tab_ok ok_r_can (hk := ?_)
  refine G.fg [0, 5, 6, 13] (hk := ?_)
  refine G.iff (h1 := fun h7 => ?_) (h2 := fun h7 => ?_)
  ·try simp only [zqz] at h7
   apply G.seq
   refine G.rg tab_ok ok_r_can (hk := ?_)
   refine G.fin tab_ok (hr := ?_)
   simp only [oneOrTup]
   congr 1
   exact (can_t (by omega)).symm
  ·try simp only [zqz] at h7
   apply G.seq
   refine G.rg tab_ok ok_r_can (hk := ?_)
   refine G.iffF (h2 := ?_)
   apply G.seq
   refine G.rg tab_ok ok_r_can (hk := ?_)
   refine G.iffT (h1 := ?_)
   apply G.seq
   refine G.rg tab_ok ok_r_can (hk := ?_)
   refine G.fin tab_ok (hr := ?_)
   simp only [oneOrTup]
   rw [can_3 hw1 (by omega), hL]
def r_r_can (xs0 : List A) (rr : A) : Prop := ∃ (ps : List PG) (ks : List LK) (xs : List AT) (qs : List (List Int)) (hs : List (List Int)) (t : Int) (k : Nat), (stOk ps ks xs qs hs t = true) ∧ (k < ps.length) ∧ xs0 = [.rp 9 [[.row false 3 (ps.map pv), .row false 5 (ks.map kv), .row false 2 (xs.map av), .row false 1 (qs.map ivL), .row false 1 (hs.map ivL), .int .i64 t, .row false 1 ((toT ps ks ks.length).map ivL), .row false 1 ((frT ps ks ks.length).map ivL), .nils]] 0 0, .int .i64 (k : Int)] ∧ rr = .bool (canK ps ks xs qs hs t k)
noncomputable def q_r_can : List A → Option A := kgr r_r_can
theorem k_r_can : KOk Try.prog (84, q_r_can) := kgr_ok (enters_of Try.func84 rfl rfl) (by rintro xs0 rr ⟨ps, ks, xs, qs, hs, t, k, hc1, hc2, rfl, rfl⟩; exact r_can_ac ps ks xs qs hs t k hc1 hc2)
theorem e_r_can : ∀ (ps : List PG) (ks : List LK) (xs : List AT) (qs : List (List Int)) (hs : List (List Int)) (t : Int) (k : Nat), (stOk ps ks xs qs hs t = true) → (k < ps.length) → q_r_can [.rp 9 [[.row false 3 (ps.map pv), .row false 5 (ks.map kv), .row false 2 (xs.map av), .row false 1 (qs.map ivL), .row false 1 (hs.map ivL), .int .i64 t, .row false 1 ((toT ps ks ks.length).map ivL), .row false 1 ((frT ps ks ks.length).map ivL), .nils]] 0 0, .int .i64 (k : Int)] = some (.bool (canK ps ks xs qs hs t k)) := by
 intro ps ks xs qs hs t k hc1 hc2
 refine kgr_eq (fun xs0 rr r2 h h2 => ?_) ⟨ps, ks, xs, qs, hs, t, k, hc1, hc2, rfl, rfl⟩
 obtain ⟨ps1, ks1, xs1, qs1, hs1, t1, k1, _, _, e1, rfl⟩ := h; obtain ⟨ps2, ks2, xs2, qs2, hs2, t2, k2, _, _, e2, rfl⟩ := h2
 rw [e1] at e2
 simp only [List.cons.injEq, A.int.injEq, A.rp.injEq, A.row.injEq, pv_inj, kv_inj, av_inj, ivL_inj, true_and, and_true, Int.natCast_inj] at e2
 obtain ⟨⟨e3, e4, e5, e6, e7, e8, _, _⟩, e9⟩ := e2
 subst e3 e4 e5 e6 e7 e8 e9
 rfl
theorem ok_r_quiet : Kn.ok Try.prog (kof [(84, q_r_can)]) := kof_cons k_r_can ((kof_nil _))
theorem r_quiet_ac (ps : List PG) (ks : List LK) (xs : List AT) (qs : List (List Int)) (hs : List (List Int)) (t : Int) (hc1 : stOk ps ks xs qs hs t = true) : AC Try.prog 69 [.rp 9 [[.row false 3 (ps.map pv), .row false 5 (ks.map kv), .row false 2 (xs.map av), .row false 1 (qs.map ivL), .row false 1 (hs.map ivL), .int .i64 t, .row false 1 ((toT ps ks ks.length).map ivL), .row false 1 ((frT ps ks ks.length).map ivL), .nils]] 0 0] (.bool (firstC ps ks xs qs hs t)) := by
 have e_r_can := e_r_can
 have hst := stOk_w hc1
 have hnw := netOk_w hst.net
 have hp12 := hnw.pl
 have hk30 := hnw.kl
 have hx1 : xs.length ≤ ps.length := Nat.le_of_eq hst.xl
 have hx2 : ps.length ≤ xs.length := Nat.le_of_eq hst.xl.symm
 have hq1 : qs.length ≤ ks.length := Nat.le_of_eq hst.ql
 have hq2 : ks.length ≤ qs.length := Nat.le_of_eq hst.ql.symm
 have hh1 : hs.length ≤ ks.length := Nat.le_of_eq hst.hl
 have hh2 : ks.length ≤ hs.length := Nat.le_of_eq hst.hl.symm
 have ht0 := hst.t0
 have ht1 := hst.t1
 have hsq := st_q hst
 have hsh := st_h hst
 have hsa := st_a hst
 have hkw := net_KW hst.net
 have hksB : ks.length < 2513169434844 := by omega
 have hpsB : ps.length < 3518437208781 := by omega
 have hft : (false == true) = false := rfl
 have htf : (true == false) = false := rfl
 have hivl := ivL_eq
 have hro := roLL_ovL
 have hpov := pureLL_ovL
 have hnov := noLoanLL_ovL
 have hpiv := pureLL_ivL
 have hriv := roLL_ivL
 refine AC.of tab_ok Try.func69 rfl (Nat.le_of_ble_eq_true rfl) fun w0 S0 => ?_
 change G _ _ ⟨[(0, .rp 9 [[.row false 3 (ps.map pv), .row false 5 (ks.map kv), .row false 2 (xs.map av), .row false 1 (qs.map ivL), .row false 1 (hs.map ivL), .int .i64 t, .row false 1 ((toT ps ks ks.length).map ivL), .row false 1 ((frT ps ks ks.length).map ivL), .nils]] 0 0)], [], 17⟩
 apply G.seq
 refine G.rg tab_ok ok_r_quiet (hk := ?_)
 apply G.seq
 apply G.seq
 refine G.rg tab_ok ok_r_quiet (hk := ?_)
 apply G.block
 refine G.nm [0, 9, 10] (h := ?_)
 refine G.loopX (fun j : Nat => ⟨[(0, .rp 9 [[.row false 3 (ps.map pv), .row false 5 (ks.map kv), .row false 2 (xs.map av), .row false 1 (qs.map ivL), .row false 1 (hs.map ivL), .int .i64 t, .row false 1 ((toT ps ks ks.length).map ivL), .row false 1 ((frT ps ks ks.length).map ivL), .nils]] 0 0), (9, .int .i64 ps.length), (10, .int .i64 j)], [], 17⟩) (fun j => j ≤ ps.length ∧ ∀ k < j, canK ps ks xs qs hs t k = false) (fun j => ps.length - j) (0) (⟨Nat.zero_le _, by omega⟩) (by simp) ?_
 intro j hj J hJ
 obtain ⟨hj, hall⟩ := hj
 have hw : IntKind.i64.wrap ((j : Int) + 1) = (j : Int) + 1 := wrap64 (by omega) (by omega)
 apply G.seq
 refine G.rg tab_ok ok_r_quiet (hk := ?_)
 apply G.seq
 refine G.iff (h1 := fun h1 => ?_) (h2 := fun h1 => ?_)
 ·try simp only [zqz] at h1
  apply G.skip
  apply G.seq
  apply G.block
  apply G.seq
  refine G.rg tab_ok ok_r_quiet (hk := ?_)
  apply G.seq
  have hjp : j < ps.length := by omega
  refine G.rg tab_ok ok_r_quiet (hk := ?_)
  refine G.iff (h1 := fun h2 => ?_) (h2 := fun h2 => ?_)
  ·try simp only [zqz] at h2
   apply G.seq
   refine G.rg tab_ok ok_r_quiet (hk := ?_)
   refine G.fin tab_ok (hr := ?_)
   simp only [oneOrTup]
   congr 1
   exact (first_no hjp h2).symm
  ·try simp only [zqz] at h2
   apply G.skip
   apply G.blk
   refine G.rg tab_ok ok_r_quiet (hk := ?_)
   refine G.nm [0, 9, 10] (h := ?_)
   exact G.upto (hJ (j + 1) ⟨by omega, up_stepB hall h2⟩ (by omega)) (by simp)
 ·try simp only [zqz] at h1
  refine G.exit rfl ?_
  apply G.seq
  refine G.rg tab_ok ok_r_quiet (hk := ?_)
  refine G.fin tab_ok (hr := ?_)
  simp only [oneOrTup]
  congr 1
  exact (first_yes (fun k hk => hall k (by omega))).symm
def r_r_quiet (xs0 : List A) (rr : A) : Prop := ∃ (ps : List PG) (ks : List LK) (xs : List AT) (qs : List (List Int)) (hs : List (List Int)) (t : Int), (stOk ps ks xs qs hs t = true) ∧ xs0 = [.rp 9 [[.row false 3 (ps.map pv), .row false 5 (ks.map kv), .row false 2 (xs.map av), .row false 1 (qs.map ivL), .row false 1 (hs.map ivL), .int .i64 t, .row false 1 ((toT ps ks ks.length).map ivL), .row false 1 ((frT ps ks ks.length).map ivL), .nils]] 0 0] ∧ rr = .bool (firstC ps ks xs qs hs t)
noncomputable def q_r_quiet : List A → Option A := kgr r_r_quiet
theorem k_r_quiet : KOk Try.prog (69, q_r_quiet) := kgr_ok (enters_of Try.func69 rfl rfl) (by rintro xs0 rr ⟨ps, ks, xs, qs, hs, t, hc1, rfl, rfl⟩; exact r_quiet_ac ps ks xs qs hs t hc1)
theorem e_r_quiet : ∀ (ps : List PG) (ks : List LK) (xs : List AT) (qs : List (List Int)) (hs : List (List Int)) (t : Int), (stOk ps ks xs qs hs t = true) → q_r_quiet [.rp 9 [[.row false 3 (ps.map pv), .row false 5 (ks.map kv), .row false 2 (xs.map av), .row false 1 (qs.map ivL), .row false 1 (hs.map ivL), .int .i64 t, .row false 1 ((toT ps ks ks.length).map ivL), .row false 1 ((frT ps ks ks.length).map ivL), .nils]] 0 0] = some (.bool (firstC ps ks xs qs hs t)) := by
 intro ps ks xs qs hs t hc1
 refine kgr_eq (fun xs0 rr r2 h h2 => ?_) ⟨ps, ks, xs, qs, hs, t, hc1, rfl, rfl⟩
 obtain ⟨ps1, ks1, xs1, qs1, hs1, t1, _, e1, rfl⟩ := h; obtain ⟨ps2, ks2, xs2, qs2, hs2, t2, _, e2, rfl⟩ := h2
 rw [e1] at e2
 simp only [List.cons.injEq, A.int.injEq, A.rp.injEq, A.row.injEq, pv_inj, kv_inj, av_inj, ivL_inj, true_and, and_true] at e2
 obtain ⟨e3, e4, e5, e6, e7, e8, _, _⟩ := e2
 subst e3 e4 e5 e6 e7 e8
 rfl
theorem ok_copyStreams : Kn.ok Try.prog (kof [(71, q_cloneInt)]) := kof_cons k_cloneInt ((kof_nil _))
theorem copyStreams_ac (qs : List (List Int)) (hc1 : qs.length ≤ 30) (hc2 : SW qs) : AC Try.prog 183 [.row false 1 (qs.map ivL)] (.row true 1 (qs.map ovL)) := by
 have e_cloneInt := e_cloneInt
 have hivl := ivL_eq
 have hro := roLL_ovL
 have hpov := pureLL_ovL
 have hnov := noLoanLL_ovL
 refine AC.of tab_ok Try.func183 rfl (Nat.le_of_ble_eq_true rfl) fun w0 S0 => ?_
 change G _ _ ⟨[(0, .row false 1 (qs.map ivL))], [], 20⟩
 apply G.seq
 refine G.rg tab_ok ok_copyStreams (hk := ?_)
 apply G.seq
 refine G.rg tab_ok ok_copyStreams (hk := ?_)
 apply G.seq
 apply G.seq
 refine G.rg tab_ok ok_copyStreams (hk := ?_)
 apply G.block
 refine G.nm [3, 7, 8, 9] (h := ?_)
 refine G.loopX (fun j : Nat => ⟨[(3, .sl 0 0 j), (7, .row false 1 (qs.map ivL)), (8, .int .i64 qs.length), (9, .int .i64 j)], [some (1, (qs.take j).map ovL)], 20⟩) (fun j => j ≤ qs.length) (fun j => qs.length - j) (0) (Nat.zero_le _) (by simp) ?_
 intro j hj J hJ
 have hw : IntKind.i64.wrap ((j : Int) + 1) = (j : Int) + 1 := wrap64 (by omega) (by omega)
 apply G.seq
 refine G.rg tab_ok ok_copyStreams (hk := ?_)
 apply G.seq
 refine G.iff (h1 := fun h1 => ?_) (h2 := fun h1 => ?_)
 ·try simp only [zqz] at h1
  apply G.skip
  apply G.seq
  apply G.block
  apply G.seq
  have hjq : j < qs.length := by omega
  have hlr0 := hc2 j hjq
  have hlr : (qs.getD j default).length ≤ 1048576 := by omega
  have hmj : min j qs.length = j := by omega
  have htk1 : List.take j ((qs.take j).map ovL) = (qs.take j).map ovL := List.take_of_length_le (by simp; omega)
  have htj : qs.take j ++ [qs.getD j default] = qs.take (j + 1) := take_snoc (by omega)
  have hq1 : ((j + 1 : Nat) : Int) ≤ 4611686018427387904 := by omega
  have hq2 : (j + 1) * 24 ≤ 70368744177664 := by omega
  refine G.rg tab_ok ok_copyStreams (hk := ?_)
  refine G.rg tab_ok ok_copyStreams (hk := ?_)
  refine G.lastE 3 0 1 (f := ovL) (l := qs.take j) (qs.getD j default) rfl rfl rfl (by decide) (by simp) (pureLL_iv _) rfl ?_
  rw [htj]
  apply G.blk
  refine G.rg tab_ok ok_copyStreams (hk := ?_)
  refine G.nm [3, 7, 8, 9] (h := ?_)
  exact G.upto (hJ (j + 1) (by omega) (by omega)) (by simp)
 ·try simp only [zqz] at h1
  refine G.exit rfl ?_
  apply G.seq
  refine G.rg tab_ok ok_copyStreams (hk := ?_)
  obtain rfl : j = qs.length := by omega
  have hfo : ∀ x : List (List Int), List.take x.length (x.map ovL) = x.map ovL := fun x => List.take_of_length_le (by simp)
  rw [List.take_length]
  refine G.fin tab_ok (hr := ?_)
  rfl
def r_copyStreams (xs0 : List A) (rr : A) : Prop := ∃ (qs : List (List Int)), (qs.length ≤ 30) ∧ (SW qs) ∧ xs0 = [.row false 1 (qs.map ivL)] ∧ rr = .row true 1 (qs.map ovL)
noncomputable def q_copyStreams : List A → Option A := kgr r_copyStreams
theorem k_copyStreams : KOk Try.prog (183, q_copyStreams) := kgr_ok (enters_of Try.func183 rfl rfl) (by rintro xs0 rr ⟨qs, hc1, hc2, rfl, rfl⟩; exact copyStreams_ac qs hc1 hc2)
theorem e_copyStreams : ∀ (qs : List (List Int)), (qs.length ≤ 30) → (SW qs) → q_copyStreams [.row false 1 (qs.map ivL)] = some (.row true 1 (qs.map ovL)) := by
 intro qs hc1 hc2
 refine kgr_eq (fun xs0 rr r2 h h2 => ?_) ⟨qs, hc1, hc2, rfl, rfl⟩
 obtain ⟨qs1, _, _, e1, rfl⟩ := h; obtain ⟨qs2, _, _, e2, rfl⟩ := h2
 rw [e1] at e2
 simp only [List.cons.injEq, A.row.injEq, ivL_inj, true_and, and_true] at e2
 subst e2
 rfl
theorem ok_copyState : Kn.ok Try.prog (kof [(183, q_copyStreams), (71, q_cloneInt)]) := kof_cons k_copyStreams (kof_cons k_cloneInt ((kof_nil _)))
theorem copyState_ac (xs : List AT) (qs : List (List Int)) (hs : List (List Int)) (t : Int) (hc1 : xs.length ≤ 12) (hc2 : AW xs) (hc3 : qs.length ≤ 30) (hc4 : SW qs) (hc5 : hs.length ≤ 30) (hc6 : SW hs) : AC Try.prog 143 [.agg [.row false 2 (xs.map av), .row false 1 (qs.map ivL), .row false 1 (hs.map ivL), .int .i64 t]] (.agg [.row true 2 (xs.map oav), .row true 1 (qs.map ovL), .row true 1 (hs.map ovL), .int .i64 t]) := by
 have e_copyStreams := e_copyStreams
 have e_cloneInt := e_cloneInt
 have hivl := ivL_eq
 have hro := roLL_ovL
 have hpov := pureLL_ovL
 have hnov := noLoanLL_ovL
 refine AC.of tab_ok Try.func143 rfl (Nat.le_of_ble_eq_true rfl) fun w0 S0 => ?_
 change G _ _ ⟨[(0, .agg [.row false 2 (xs.map av), .row false 1 (qs.map ivL), .row false 1 (hs.map ivL), .int .i64 t])], [], 34⟩
 apply G.seq
 refine G.rg tab_ok ok_copyState (hk := ?_)
 apply G.seq
 apply G.joinR
 ·intro hk
  refine G.drawL (c := ⟨Try.prog, tab, _, _, _, _, _⟩) mixed tab_ok ok_copyState 11 ?_ rfl
  refine AnyL.gg (n := 5) 6 [0, 1, 3, 4, 6, 7] (h := ?_)
  refine AnyL.fk2 (n := 4) 2 9 (k1 := ?_) (k2 := ?_)
  ·skip
   refine AnyL.fk2 (n := 3) 5 9 (k1 := ?_) (k2 := ?_)
   ·skip
    refine AnyL.gg (n := 0) 3 [8, 9, 10] (h := ?_)
    exact AnyL.ln [1, 2, 3] (h := hk)
   ·skip
    refine AnyL.gg (n := 0) 3 [5, 8, 10] (h := ?_)
    exact AnyL.ln [1, 2, 3] (h := hk)
  ·skip
   refine AnyL.gg (n := 0) 4 [2, 5, 8, 10] (h := ?_)
   exact AnyL.ln [1, 2, 3] (h := hk)
 refine G.focusNil 2 0 0 2 rfl rfl rfl ?_
 simp only [withH]
 apply G.seq
 apply G.seq
 refine G.rg tab_ok ok_copyState (hk := ?_)
 apply G.block
 refine G.nm [2, 3, 16, 17, 18] (h := ?_)
 refine G.loopX (fun j : Nat => ⟨[(2, .ptr 0 0 0), (3, .ptr 1 0 0), (16, .row false 2 (xs.map av)), (17, .int .i64 xs.length), (18, .int .i64 j)], [some (4, [[.nils, .nils, .nils, .int .i64 0]]), some (4, [[.sl 2 0 j, .sl 3 0 qs.length, .sl 4 0 hs.length, .int .i64 t]]), some (2, (xs.take j).map oav), some (1, qs.map ovL), some (1, hs.map ovL)], 34⟩) (fun j => j ≤ xs.length) (fun j => xs.length - j) (0) (Nat.zero_le _) (by simp) ?_
 intro j hj J hJ
 have hw : IntKind.i64.wrap ((j : Int) + 1) = (j : Int) + 1 := wrap64 (by omega) (by omega)
 apply G.seq
 refine G.rg tab_ok ok_copyState (hk := ?_)
 apply G.seq
 refine G.iff (h1 := fun h1 => ?_) (h2 := fun h1 => ?_)
 ·try simp only [zqz] at h1
  apply G.skip
  apply G.seq
  apply G.block
  apply G.seq
  have hjx : j < xs.length := by omega
  have hlr0 := hc2 j hjx
  have hlr : (xs.getD j default).rs.length ≤ 1048576 := by omega
  have hmj : min j xs.length = j := by omega
  have htk1 : List.take j ((xs.take j).map oav) = (xs.take j).map oav := List.take_of_length_le (by simp; omega)
  have htj : xs.take j ++ [xs.getD j default] = xs.take (j + 1) := take_snoc (by omega)
  have hq1 : ((j + 1 : Nat) : Int) ≤ 4611686018427387904 := by omega
  have hq2 : (j + 1) * 32 ≤ 70368744177664 := by omega
  refine G.rg tab_ok ok_copyState (hk := ?_)
  apply G.seq
  refine G.rg tab_ok ok_copyState (hk := ?_)
  refine G.rg tab_ok ok_copyState (hk := ?_)
  refine G.lastE 8 1 6 (f := oav) (l := xs.take j) (xs.getD j default) rfl rfl rfl (by decide) (by simp) (pureLL_iv _) rfl ?_
  rw [htj]
  apply G.blk
  refine G.rg tab_ok ok_copyState (hk := ?_)
  refine G.nm [2, 3, 16, 17, 18] (h := ?_)
  exact G.upto (hJ (j + 1) (by omega) (by omega)) (by simp)
 ·try simp only [zqz] at h1
  refine G.exit rfl ?_
  apply G.seq
  refine G.rg tab_ok ok_copyState (hk := ?_)
  obtain rfl : j = xs.length := by omega
  have hfo : ∀ x : List (List Int), List.take x.length (x.map ovL) = x.map ovL := fun x => List.take_of_length_le (by simp)
  rw [List.take_length]
  refine G.fin tab_ok (hr := ?_)
  rfl
def r_copyState (xs0 : List A) (rr : A) : Prop := ∃ (xs : List AT) (qs : List (List Int)) (hs : List (List Int)) (t : Int), (xs.length ≤ 12) ∧ (AW xs) ∧ (qs.length ≤ 30) ∧ (SW qs) ∧ (hs.length ≤ 30) ∧ (SW hs) ∧ xs0 = [.agg [.row false 2 (xs.map av), .row false 1 (qs.map ivL), .row false 1 (hs.map ivL), .int .i64 t]] ∧ rr = .agg [.row true 2 (xs.map oav), .row true 1 (qs.map ovL), .row true 1 (hs.map ovL), .int .i64 t]
noncomputable def q_copyState : List A → Option A := kgr r_copyState
theorem k_copyState : KOk Try.prog (143, q_copyState) := kgr_ok (enters_of Try.func143 rfl rfl) (by rintro xs0 rr ⟨xs, qs, hs, t, hc1, hc2, hc3, hc4, hc5, hc6, rfl, rfl⟩; exact copyState_ac xs qs hs t hc1 hc2 hc3 hc4 hc5 hc6)
theorem e_copyState : ∀ (xs : List AT) (qs : List (List Int)) (hs : List (List Int)) (t : Int), (xs.length ≤ 12) → (AW xs) → (qs.length ≤ 30) → (SW qs) → (hs.length ≤ 30) → (SW hs) → q_copyState [.agg [.row false 2 (xs.map av), .row false 1 (qs.map ivL), .row false 1 (hs.map ivL), .int .i64 t]] = some (.agg [.row true 2 (xs.map oav), .row true 1 (qs.map ovL), .row true 1 (hs.map ovL), .int .i64 t]) := by
 intro xs qs hs t hc1 hc2 hc3 hc4 hc5 hc6
 refine kgr_eq (fun xs0 rr r2 h h2 => ?_) ⟨xs, qs, hs, t, hc1, hc2, hc3, hc4, hc5, hc6, rfl, rfl⟩
 obtain ⟨xs1, qs1, hs1, t1, _, _, _, _, _, _, e1, rfl⟩ := h; obtain ⟨xs2, qs2, hs2, t2, _, _, _, _, _, _, e2, rfl⟩ := h2
 rw [e1] at e2
 simp only [List.cons.injEq, A.int.injEq, A.agg.injEq, A.row.injEq, av_inj, ivL_inj, true_and, and_true] at e2
 obtain ⟨e3, e4, e5, e6⟩ := e2
 subst e3 e4 e5 e6
 rfl
theorem ok_newRun : Kn.ok Try.prog (kof [(143, q_copyState)]) := kof_cons k_copyState ((kof_nil _))
set_option maxRecDepth 20000 in
set_option maxHeartbeats 40000000 in
theorem newRun_ac (ps : List PG) (ks : List LK) (xs : List AT) (qs : List (List Int)) (hs : List (List Int)) (t : Int) (hc1 : stOk ps ks xs qs hs t = true) : AC Try.prog 66 [.agg [.row false 3 (ps.map pv), .row false 5 (ks.map kv)], .agg [.row false 2 (xs.map av), .row false 1 (qs.map ivL), .row false 1 (hs.map ivL), .int .i64 t], .nils] (.box [.row false 3 (ps.map pv), .row false 5 (ks.map kv), .row true 2 (xs.map oav), .row true 1 (qs.map ovL), .row true 1 (hs.map ovL), .int .i64 t, .row true 1 ((toT ps ks ks.length).map ovL), .row true 1 ((frT ps ks ks.length).map ovL), .nils]) := by
 have e_copyState := e_copyState
 have hst := stOk_w hc1
 have hnw := netOk_w hst.net
 have hp12 := hnw.pl
 have hk30 := hnw.kl
 have hx1 : xs.length ≤ ps.length := Nat.le_of_eq hst.xl
 have hx2 : ps.length ≤ xs.length := Nat.le_of_eq hst.xl.symm
 have hq1 : qs.length ≤ ks.length := Nat.le_of_eq hst.ql
 have hq2 : ks.length ≤ qs.length := Nat.le_of_eq hst.ql.symm
 have hh1 : hs.length ≤ ks.length := Nat.le_of_eq hst.hl
 have hh2 : ks.length ≤ hs.length := Nat.le_of_eq hst.hl.symm
 have ht0 := hst.t0
 have ht1 := hst.t1
 have hsq := st_q hst
 have hsh := st_h hst
 have hsa := st_a hst
 have hkw := net_KW hst.net
 have hksB : ks.length < 2513169434844 := by omega
 have hpsB : ps.length < 3518437208781 := by omega
 have hft : (false == true) = false := rfl
 have htf : (true == false) = false := rfl
 have hivl := ivL_eq
 have hro := roLL_ovL
 have hpov := pureLL_ovL
 have hnov := noLoanLL_ovL
 have hpiv := pureLL_ivL
 have hriv := roLL_ivL
 have hrep : ∀ n, List.replicate n [A.int .i64 0] = (List.replicate n (0 : Int)).map iv := fun n => by simp [iv]
 have hxl : xs.length ≤ 12 := by omega
 have hql : qs.length ≤ 30 := by omega
 have hhl : hs.length ≤ 30 := by omega
 refine AC.of tab_ok Try.func66 rfl (Nat.le_of_ble_eq_true rfl) fun w0 S0 => ?_
 change G _ _ ⟨[(0, .agg [.row false 3 (ps.map pv), .row false 5 (ks.map kv)]), (1, .agg [.row false 2 (xs.map av), .row false 1 (qs.map ivL), .row false 1 (hs.map ivL), .int .i64 t]), (2, .nils)], [], 90⟩
 apply G.seq
 refine G.rg tab_ok ok_newRun (hk := ?_)
 apply G.seq
 refine G.dr mixed tab_ok ok_newRun [0, 1, 3, 2, 4, 5, 6] (hk := ?_)
 refine G.focusNil 5 0 6 1 rfl rfl rfl ?_
 simp only [withH]
 refine G.focusNil 5 0 7 1 rfl rfl rfl ?_
 simp only [withH]
 apply G.seq
 apply G.seq
 refine G.rg tab_ok ok_newRun (hk := ?_)
 apply G.block
 refine G.nm [3, 7, 19, 20, 21] (h := ?_)
 refine G.loopX (fun j : Nat => ⟨[(3, .ptr 0 0 0), (7, .ptr 1 0 0), (19, .row false 3 (ps.map pv)), (20, .int .i64 ps.length), (21, .int .i64 j)], [some (2, [[.row false 3 (ps.map pv), .row false 5 (ks.map kv)]]), some (9, [[.row false 3 (ps.map pv), .row false 5 (ks.map kv), .sl 2 0 xs.length, .sl 3 0 qs.length, .sl 4 0 hs.length, .int .i64 t, .sl 5 0 j, .sl 6 0 j, .nils]]), some (2, xs.map oav), some (1, qs.map ovL), some (1, hs.map ovL), some (1, ((toT ps ks 0).take j).map ovL), some (1, ((frT ps ks 0).take j).map ovL)], 90⟩) (fun j => j ≤ ps.length) (fun j => ps.length - j) (0) (Nat.zero_le _) (by simp) ?_
 intro j hj J hJ
 have hw : IntKind.i64.wrap ((j : Int) + 1) = (j : Int) + 1 := wrap64 (by omega) (by omega)
 apply G.seq
 refine G.rg tab_ok ok_newRun (hk := ?_)
 apply G.seq
 refine G.iff (h1 := fun h1 => ?_) (h2 := fun h1 => ?_)
 ·try simp only [zqz] at h1
  apply G.skip
  apply G.seq
  apply G.block
  apply G.seq
  have hjp : j < ps.length := by omega
  have hpb := pg_bd hnw.pg hjp
  have hi0 := hpb.1.1
  have ho0 := hpb.2.1.1
  have hm1 : (ps.getD j default).i ≤ 4611686018427387904 := by omega
  have hm2 : 8 * (ps.getD j default).i ≤ 140737488355328 := by omega
  have hm3 : (ps.getD j default).o ≤ 4611686018427387904 := by omega
  have hm4 : 8 * (ps.getD j default).o ≤ 140737488355328 := by omega
  clear hpb
  have hmtoT : min j (toT ps ks 0).length = j := by rw [toT_len]; omega
  have httoT : List.take j (((toT ps ks 0).take j).map ovL) = ((toT ps ks 0).take j).map ovL := List.take_of_length_le (by simp; omega)
  have hjtoT := toT_zero (ps := ps) (ks := ks) j hjp
  have hmfrT : min j (frT ps ks 0).length = j := by rw [frT_len]; omega
  have htfrT : List.take j (((frT ps ks 0).take j).map ovL) = ((frT ps ks 0).take j).map ovL := List.take_of_length_le (by simp; omega)
  have hjfrT := frT_zero (ps := ps) (ks := ks) j hjp
  have hq1 : ((j + 1 : Nat) : Int) ≤ 4611686018427387904 := by omega
  have hq2 : (j + 1) * 24 ≤ 70368744177664 := by omega
  refine G.rg tab_ok ok_newRun (hk := ?_)
  apply G.joinR
  ·intro hk
   refine G.drawL (c := ⟨Try.prog, tab, _, _, _, _, _⟩) mixed tab_ok ok_newRun 26 ?_ rfl
   refine AnyL.gg (n := 14) 12 [0, 1, 2, 3, 4, 5, 6, 7, 11, 12, 13, 15] (h := ?_)
   refine AnyL.fk3w (n := 13) 8 14 16 (k1 := ?_) (k2 := ?_) (k3 := ?_)
   ·skip
    refine AnyL.fk3w (n := 12) 9 14 16 (k1 := ?_) (k2 := ?_) (k3 := ?_)
    ·skip
     refine AnyL.fk3w (n := 11) 10 14 16 (k1 := ?_) (k2 := ?_) (k3 := ?_)
     ·skip
      refine AnyL.gg (n := 0) 11 [14, 16, 17, 18, 19, 20, 21, 22, 23, 24, 25] (h := ?_)
      exact AnyL.ln [3, 7, 19, 20, 21] (h := hk)
     ·skip
      refine AnyL.fk2 (n := 10) 10 16 (k1 := ?_) (k2 := ?_)
      ·skip
       as_aux_lemma =>
        refine AnyL.gg (n := 0) 10 [16, 17, 18, 19, 20, 21, 22, 23, 24, 25] (h := ?_)
        exact AnyL.ln [3, 7, 19, 20, 21] (h := hk)
      ·skip
       refine AnyL.fk2 (n := 9) 10 17 (k1 := ?_) (k2 := ?_)
       ·skip
        as_aux_lemma =>
         refine AnyL.gg (n := 0) 9 [17, 18, 19, 20, 21, 22, 23, 24, 25] (h := ?_)
         exact AnyL.ln [3, 7, 19, 20, 21] (h := hk)
       ·skip
        refine AnyL.fk2 (n := 8) 10 18 (k1 := ?_) (k2 := ?_)
        ·skip
         as_aux_lemma =>
          refine AnyL.gg (n := 0) 8 [18, 19, 20, 21, 22, 23, 24, 25] (h := ?_)
          exact AnyL.ln [3, 7, 19, 20, 21] (h := hk)
        ·skip
         as_aux_lemma =>
          refine AnyL.gg (n := 0) 8 [10, 19, 20, 21, 22, 23, 24, 25] (h := ?_)
          exact AnyL.ln [3, 7, 19, 20, 21] (h := hk)
     ·skip
      refine AnyL.fk3w (n := 10) 10 14 17 (k1 := ?_) (k2 := ?_) (k3 := ?_)
      ·skip
       as_aux_lemma =>
        refine AnyL.gg (n := 0) 10 [14, 17, 18, 19, 20, 21, 22, 23, 24, 25] (h := ?_)
        exact AnyL.ln [3, 7, 19, 20, 21] (h := hk)
      ·skip
       refine AnyL.fk2 (n := 9) 10 17 (k1 := ?_) (k2 := ?_)
       ·skip
        as_aux_lemma =>
         refine AnyL.gg (n := 0) 9 [17, 18, 19, 20, 21, 22, 23, 24, 25] (h := ?_)
         exact AnyL.ln [3, 7, 19, 20, 21] (h := hk)
       ·skip
        refine AnyL.fk2 (n := 8) 10 18 (k1 := ?_) (k2 := ?_)
        ·skip
         as_aux_lemma =>
          refine AnyL.gg (n := 0) 8 [18, 19, 20, 21, 22, 23, 24, 25] (h := ?_)
          exact AnyL.ln [3, 7, 19, 20, 21] (h := hk)
        ·skip
         as_aux_lemma =>
          refine AnyL.gg (n := 0) 8 [10, 19, 20, 21, 22, 23, 24, 25] (h := ?_)
          exact AnyL.ln [3, 7, 19, 20, 21] (h := hk)
      ·skip
       refine AnyL.fk3w (n := 9) 10 14 18 (k1 := ?_) (k2 := ?_) (k3 := ?_)
       ·skip
        as_aux_lemma =>
         refine AnyL.gg (n := 0) 9 [14, 18, 19, 20, 21, 22, 23, 24, 25] (h := ?_)
         exact AnyL.ln [3, 7, 19, 20, 21] (h := hk)
       ·skip
        refine AnyL.fk2 (n := 8) 10 18 (k1 := ?_) (k2 := ?_)
        ·skip
         as_aux_lemma =>
          refine AnyL.gg (n := 0) 8 [18, 19, 20, 21, 22, 23, 24, 25] (h := ?_)
          exact AnyL.ln [3, 7, 19, 20, 21] (h := hk)
        ·skip
         as_aux_lemma =>
          refine AnyL.gg (n := 0) 8 [10, 19, 20, 21, 22, 23, 24, 25] (h := ?_)
          exact AnyL.ln [3, 7, 19, 20, 21] (h := hk)
       ·skip
        refine AnyL.fk2 (n := 8) 10 14 (k1 := ?_) (k2 := ?_)
        ·skip
         as_aux_lemma =>
          refine AnyL.gg (n := 0) 8 [14, 19, 20, 21, 22, 23, 24, 25] (h := ?_)
          exact AnyL.ln [3, 7, 19, 20, 21] (h := hk)
        ·skip
         as_aux_lemma =>
          refine AnyL.gg (n := 0) 8 [10, 19, 20, 21, 22, 23, 24, 25] (h := ?_)
          exact AnyL.ln [3, 7, 19, 20, 21] (h := hk)
    ·skip
     refine AnyL.fk2 (n := 11) 9 16 (k1 := ?_) (k2 := ?_)
     ·skip
      refine AnyL.fk2 (n := 10) 10 16 (k1 := ?_) (k2 := ?_)
      ·skip
       as_aux_lemma =>
        refine AnyL.gg (n := 0) 10 [16, 17, 18, 19, 20, 21, 22, 23, 24, 25] (h := ?_)
        exact AnyL.ln [3, 7, 19, 20, 21] (h := hk)
      ·skip
       refine AnyL.fk2 (n := 9) 10 17 (k1 := ?_) (k2 := ?_)
       ·skip
        as_aux_lemma =>
         refine AnyL.gg (n := 0) 9 [17, 18, 19, 20, 21, 22, 23, 24, 25] (h := ?_)
         exact AnyL.ln [3, 7, 19, 20, 21] (h := hk)
       ·skip
        refine AnyL.fk2 (n := 8) 10 18 (k1 := ?_) (k2 := ?_)
        ·skip
         as_aux_lemma =>
          refine AnyL.gg (n := 0) 8 [18, 19, 20, 21, 22, 23, 24, 25] (h := ?_)
          exact AnyL.ln [3, 7, 19, 20, 21] (h := hk)
        ·skip
         as_aux_lemma =>
          refine AnyL.gg (n := 0) 8 [10, 19, 20, 21, 22, 23, 24, 25] (h := ?_)
          exact AnyL.ln [3, 7, 19, 20, 21] (h := hk)
     ·skip
      refine AnyL.fk2 (n := 10) 9 17 (k1 := ?_) (k2 := ?_)
      ·skip
       refine AnyL.fk2 (n := 9) 10 17 (k1 := ?_) (k2 := ?_)
       ·skip
        as_aux_lemma =>
         refine AnyL.gg (n := 0) 9 [17, 18, 19, 20, 21, 22, 23, 24, 25] (h := ?_)
         exact AnyL.ln [3, 7, 19, 20, 21] (h := hk)
       ·skip
        refine AnyL.fk2 (n := 8) 10 18 (k1 := ?_) (k2 := ?_)
        ·skip
         as_aux_lemma =>
          refine AnyL.gg (n := 0) 8 [18, 19, 20, 21, 22, 23, 24, 25] (h := ?_)
          exact AnyL.ln [3, 7, 19, 20, 21] (h := hk)
        ·skip
         as_aux_lemma =>
          refine AnyL.gg (n := 0) 8 [10, 19, 20, 21, 22, 23, 24, 25] (h := ?_)
          exact AnyL.ln [3, 7, 19, 20, 21] (h := hk)
      ·skip
       refine AnyL.fk2 (n := 9) 9 18 (k1 := ?_) (k2 := ?_)
       ·skip
        refine AnyL.fk2 (n := 8) 10 18 (k1 := ?_) (k2 := ?_)
        ·skip
         as_aux_lemma =>
          refine AnyL.gg (n := 0) 8 [18, 19, 20, 21, 22, 23, 24, 25] (h := ?_)
          exact AnyL.ln [3, 7, 19, 20, 21] (h := hk)
        ·skip
         as_aux_lemma =>
          refine AnyL.gg (n := 0) 8 [10, 19, 20, 21, 22, 23, 24, 25] (h := ?_)
          exact AnyL.ln [3, 7, 19, 20, 21] (h := hk)
       ·skip
        as_aux_lemma =>
         refine AnyL.gg (n := 0) 9 [9, 10, 19, 20, 21, 22, 23, 24, 25] (h := ?_)
         exact AnyL.ln [3, 7, 19, 20, 21] (h := hk)
    ·skip
     refine AnyL.fk3w (n := 11) 9 14 17 (k1 := ?_) (k2 := ?_) (k3 := ?_)
     ·skip
      refine AnyL.fk3w (n := 10) 10 14 17 (k1 := ?_) (k2 := ?_) (k3 := ?_)
      ·skip
       as_aux_lemma =>
        refine AnyL.gg (n := 0) 10 [14, 17, 18, 19, 20, 21, 22, 23, 24, 25] (h := ?_)
        exact AnyL.ln [3, 7, 19, 20, 21] (h := hk)
      ·skip
       refine AnyL.fk2 (n := 9) 10 17 (k1 := ?_) (k2 := ?_)
       ·skip
        as_aux_lemma =>
         refine AnyL.gg (n := 0) 9 [17, 18, 19, 20, 21, 22, 23, 24, 25] (h := ?_)
         exact AnyL.ln [3, 7, 19, 20, 21] (h := hk)
       ·skip
        refine AnyL.fk2 (n := 8) 10 18 (k1 := ?_) (k2 := ?_)
        ·skip
         as_aux_lemma =>
          refine AnyL.gg (n := 0) 8 [18, 19, 20, 21, 22, 23, 24, 25] (h := ?_)
          exact AnyL.ln [3, 7, 19, 20, 21] (h := hk)
        ·skip
         as_aux_lemma =>
          refine AnyL.gg (n := 0) 8 [10, 19, 20, 21, 22, 23, 24, 25] (h := ?_)
          exact AnyL.ln [3, 7, 19, 20, 21] (h := hk)
      ·skip
       refine AnyL.fk3w (n := 9) 10 14 18 (k1 := ?_) (k2 := ?_) (k3 := ?_)
       ·skip
        as_aux_lemma =>
         refine AnyL.gg (n := 0) 9 [14, 18, 19, 20, 21, 22, 23, 24, 25] (h := ?_)
         exact AnyL.ln [3, 7, 19, 20, 21] (h := hk)
       ·skip
        refine AnyL.fk2 (n := 8) 10 18 (k1 := ?_) (k2 := ?_)
        ·skip
         as_aux_lemma =>
          refine AnyL.gg (n := 0) 8 [18, 19, 20, 21, 22, 23, 24, 25] (h := ?_)
          exact AnyL.ln [3, 7, 19, 20, 21] (h := hk)
        ·skip
         as_aux_lemma =>
          refine AnyL.gg (n := 0) 8 [10, 19, 20, 21, 22, 23, 24, 25] (h := ?_)
          exact AnyL.ln [3, 7, 19, 20, 21] (h := hk)
       ·skip
        refine AnyL.fk2 (n := 8) 10 14 (k1 := ?_) (k2 := ?_)
        ·skip
         as_aux_lemma =>
          refine AnyL.gg (n := 0) 8 [14, 19, 20, 21, 22, 23, 24, 25] (h := ?_)
          exact AnyL.ln [3, 7, 19, 20, 21] (h := hk)
        ·skip
         as_aux_lemma =>
          refine AnyL.gg (n := 0) 8 [10, 19, 20, 21, 22, 23, 24, 25] (h := ?_)
          exact AnyL.ln [3, 7, 19, 20, 21] (h := hk)
     ·skip
      refine AnyL.fk2 (n := 10) 9 17 (k1 := ?_) (k2 := ?_)
      ·skip
       refine AnyL.fk2 (n := 9) 10 17 (k1 := ?_) (k2 := ?_)
       ·skip
        as_aux_lemma =>
         refine AnyL.gg (n := 0) 9 [17, 18, 19, 20, 21, 22, 23, 24, 25] (h := ?_)
         exact AnyL.ln [3, 7, 19, 20, 21] (h := hk)
       ·skip
        refine AnyL.fk2 (n := 8) 10 18 (k1 := ?_) (k2 := ?_)
        ·skip
         as_aux_lemma =>
          refine AnyL.gg (n := 0) 8 [18, 19, 20, 21, 22, 23, 24, 25] (h := ?_)
          exact AnyL.ln [3, 7, 19, 20, 21] (h := hk)
        ·skip
         as_aux_lemma =>
          refine AnyL.gg (n := 0) 8 [10, 19, 20, 21, 22, 23, 24, 25] (h := ?_)
          exact AnyL.ln [3, 7, 19, 20, 21] (h := hk)
      ·skip
       refine AnyL.fk2 (n := 9) 9 18 (k1 := ?_) (k2 := ?_)
       ·skip
        refine AnyL.fk2 (n := 8) 10 18 (k1 := ?_) (k2 := ?_)
        ·skip
         as_aux_lemma =>
          refine AnyL.gg (n := 0) 8 [18, 19, 20, 21, 22, 23, 24, 25] (h := ?_)
          exact AnyL.ln [3, 7, 19, 20, 21] (h := hk)
        ·skip
         as_aux_lemma =>
          refine AnyL.gg (n := 0) 8 [10, 19, 20, 21, 22, 23, 24, 25] (h := ?_)
          exact AnyL.ln [3, 7, 19, 20, 21] (h := hk)
       ·skip
        as_aux_lemma =>
         refine AnyL.gg (n := 0) 9 [9, 10, 19, 20, 21, 22, 23, 24, 25] (h := ?_)
         exact AnyL.ln [3, 7, 19, 20, 21] (h := hk)
     ·skip
      refine AnyL.fk3w (n := 10) 9 14 18 (k1 := ?_) (k2 := ?_) (k3 := ?_)
      ·skip
       refine AnyL.fk3w (n := 9) 10 14 18 (k1 := ?_) (k2 := ?_) (k3 := ?_)
       ·skip
        as_aux_lemma =>
         refine AnyL.gg (n := 0) 9 [14, 18, 19, 20, 21, 22, 23, 24, 25] (h := ?_)
         exact AnyL.ln [3, 7, 19, 20, 21] (h := hk)
       ·skip
        refine AnyL.fk2 (n := 8) 10 18 (k1 := ?_) (k2 := ?_)
        ·skip
         as_aux_lemma =>
          refine AnyL.gg (n := 0) 8 [18, 19, 20, 21, 22, 23, 24, 25] (h := ?_)
          exact AnyL.ln [3, 7, 19, 20, 21] (h := hk)
        ·skip
         as_aux_lemma =>
          refine AnyL.gg (n := 0) 8 [10, 19, 20, 21, 22, 23, 24, 25] (h := ?_)
          exact AnyL.ln [3, 7, 19, 20, 21] (h := hk)
       ·skip
        refine AnyL.fk2 (n := 8) 10 14 (k1 := ?_) (k2 := ?_)
        ·skip
         as_aux_lemma =>
          refine AnyL.gg (n := 0) 8 [14, 19, 20, 21, 22, 23, 24, 25] (h := ?_)
          exact AnyL.ln [3, 7, 19, 20, 21] (h := hk)
        ·skip
         as_aux_lemma =>
          refine AnyL.gg (n := 0) 8 [10, 19, 20, 21, 22, 23, 24, 25] (h := ?_)
          exact AnyL.ln [3, 7, 19, 20, 21] (h := hk)
      ·skip
       refine AnyL.fk2 (n := 9) 9 18 (k1 := ?_) (k2 := ?_)
       ·skip
        refine AnyL.fk2 (n := 8) 10 18 (k1 := ?_) (k2 := ?_)
        ·skip
         as_aux_lemma =>
          refine AnyL.gg (n := 0) 8 [18, 19, 20, 21, 22, 23, 24, 25] (h := ?_)
          exact AnyL.ln [3, 7, 19, 20, 21] (h := hk)
        ·skip
         as_aux_lemma =>
          refine AnyL.gg (n := 0) 8 [10, 19, 20, 21, 22, 23, 24, 25] (h := ?_)
          exact AnyL.ln [3, 7, 19, 20, 21] (h := hk)
       ·skip
        as_aux_lemma =>
         refine AnyL.gg (n := 0) 9 [9, 10, 19, 20, 21, 22, 23, 24, 25] (h := ?_)
         exact AnyL.ln [3, 7, 19, 20, 21] (h := hk)
      ·skip
       refine AnyL.fk2 (n := 9) 9 14 (k1 := ?_) (k2 := ?_)
       ·skip
        refine AnyL.fk2 (n := 8) 10 14 (k1 := ?_) (k2 := ?_)
        ·skip
         as_aux_lemma =>
          refine AnyL.gg (n := 0) 8 [14, 19, 20, 21, 22, 23, 24, 25] (h := ?_)
          exact AnyL.ln [3, 7, 19, 20, 21] (h := hk)
        ·skip
         as_aux_lemma =>
          refine AnyL.gg (n := 0) 8 [10, 19, 20, 21, 22, 23, 24, 25] (h := ?_)
          exact AnyL.ln [3, 7, 19, 20, 21] (h := hk)
       ·skip
        as_aux_lemma =>
         refine AnyL.gg (n := 0) 9 [9, 10, 19, 20, 21, 22, 23, 24, 25] (h := ?_)
         exact AnyL.ln [3, 7, 19, 20, 21] (h := hk)
   ·skip
    refine AnyL.fk2 (n := 12) 8 16 (k1 := ?_) (k2 := ?_)
    ·skip
     refine AnyL.fk2 (n := 11) 9 16 (k1 := ?_) (k2 := ?_)
     ·skip
      refine AnyL.fk2 (n := 10) 10 16 (k1 := ?_) (k2 := ?_)
      ·skip
       as_aux_lemma =>
        refine AnyL.gg (n := 0) 10 [16, 17, 18, 19, 20, 21, 22, 23, 24, 25] (h := ?_)
        exact AnyL.ln [3, 7, 19, 20, 21] (h := hk)
      ·skip
       refine AnyL.fk2 (n := 9) 10 17 (k1 := ?_) (k2 := ?_)
       ·skip
        as_aux_lemma =>
         refine AnyL.gg (n := 0) 9 [17, 18, 19, 20, 21, 22, 23, 24, 25] (h := ?_)
         exact AnyL.ln [3, 7, 19, 20, 21] (h := hk)
       ·skip
        refine AnyL.fk2 (n := 8) 10 18 (k1 := ?_) (k2 := ?_)
        ·skip
         as_aux_lemma =>
          refine AnyL.gg (n := 0) 8 [18, 19, 20, 21, 22, 23, 24, 25] (h := ?_)
          exact AnyL.ln [3, 7, 19, 20, 21] (h := hk)
        ·skip
         as_aux_lemma =>
          refine AnyL.gg (n := 0) 8 [10, 19, 20, 21, 22, 23, 24, 25] (h := ?_)
          exact AnyL.ln [3, 7, 19, 20, 21] (h := hk)
     ·skip
      refine AnyL.fk2 (n := 10) 9 17 (k1 := ?_) (k2 := ?_)
      ·skip
       refine AnyL.fk2 (n := 9) 10 17 (k1 := ?_) (k2 := ?_)
       ·skip
        as_aux_lemma =>
         refine AnyL.gg (n := 0) 9 [17, 18, 19, 20, 21, 22, 23, 24, 25] (h := ?_)
         exact AnyL.ln [3, 7, 19, 20, 21] (h := hk)
       ·skip
        refine AnyL.fk2 (n := 8) 10 18 (k1 := ?_) (k2 := ?_)
        ·skip
         as_aux_lemma =>
          refine AnyL.gg (n := 0) 8 [18, 19, 20, 21, 22, 23, 24, 25] (h := ?_)
          exact AnyL.ln [3, 7, 19, 20, 21] (h := hk)
        ·skip
         as_aux_lemma =>
          refine AnyL.gg (n := 0) 8 [10, 19, 20, 21, 22, 23, 24, 25] (h := ?_)
          exact AnyL.ln [3, 7, 19, 20, 21] (h := hk)
      ·skip
       refine AnyL.fk2 (n := 9) 9 18 (k1 := ?_) (k2 := ?_)
       ·skip
        refine AnyL.fk2 (n := 8) 10 18 (k1 := ?_) (k2 := ?_)
        ·skip
         as_aux_lemma =>
          refine AnyL.gg (n := 0) 8 [18, 19, 20, 21, 22, 23, 24, 25] (h := ?_)
          exact AnyL.ln [3, 7, 19, 20, 21] (h := hk)
        ·skip
         as_aux_lemma =>
          refine AnyL.gg (n := 0) 8 [10, 19, 20, 21, 22, 23, 24, 25] (h := ?_)
          exact AnyL.ln [3, 7, 19, 20, 21] (h := hk)
       ·skip
        as_aux_lemma =>
         refine AnyL.gg (n := 0) 9 [9, 10, 19, 20, 21, 22, 23, 24, 25] (h := ?_)
         exact AnyL.ln [3, 7, 19, 20, 21] (h := hk)
    ·skip
     refine AnyL.fk2 (n := 11) 8 17 (k1 := ?_) (k2 := ?_)
     ·skip
      refine AnyL.fk2 (n := 10) 9 17 (k1 := ?_) (k2 := ?_)
      ·skip
       refine AnyL.fk2 (n := 9) 10 17 (k1 := ?_) (k2 := ?_)
       ·skip
        as_aux_lemma =>
         refine AnyL.gg (n := 0) 9 [17, 18, 19, 20, 21, 22, 23, 24, 25] (h := ?_)
         exact AnyL.ln [3, 7, 19, 20, 21] (h := hk)
       ·skip
        refine AnyL.fk2 (n := 8) 10 18 (k1 := ?_) (k2 := ?_)
        ·skip
         as_aux_lemma =>
          refine AnyL.gg (n := 0) 8 [18, 19, 20, 21, 22, 23, 24, 25] (h := ?_)
          exact AnyL.ln [3, 7, 19, 20, 21] (h := hk)
        ·skip
         as_aux_lemma =>
          refine AnyL.gg (n := 0) 8 [10, 19, 20, 21, 22, 23, 24, 25] (h := ?_)
          exact AnyL.ln [3, 7, 19, 20, 21] (h := hk)
      ·skip
       refine AnyL.fk2 (n := 9) 9 18 (k1 := ?_) (k2 := ?_)
       ·skip
        refine AnyL.fk2 (n := 8) 10 18 (k1 := ?_) (k2 := ?_)
        ·skip
         as_aux_lemma =>
          refine AnyL.gg (n := 0) 8 [18, 19, 20, 21, 22, 23, 24, 25] (h := ?_)
          exact AnyL.ln [3, 7, 19, 20, 21] (h := hk)
        ·skip
         as_aux_lemma =>
          refine AnyL.gg (n := 0) 8 [10, 19, 20, 21, 22, 23, 24, 25] (h := ?_)
          exact AnyL.ln [3, 7, 19, 20, 21] (h := hk)
       ·skip
        as_aux_lemma =>
         refine AnyL.gg (n := 0) 9 [9, 10, 19, 20, 21, 22, 23, 24, 25] (h := ?_)
         exact AnyL.ln [3, 7, 19, 20, 21] (h := hk)
     ·skip
      refine AnyL.fk2 (n := 10) 8 18 (k1 := ?_) (k2 := ?_)
      ·skip
       refine AnyL.fk2 (n := 9) 9 18 (k1 := ?_) (k2 := ?_)
       ·skip
        refine AnyL.fk2 (n := 8) 10 18 (k1 := ?_) (k2 := ?_)
        ·skip
         as_aux_lemma =>
          refine AnyL.gg (n := 0) 8 [18, 19, 20, 21, 22, 23, 24, 25] (h := ?_)
          exact AnyL.ln [3, 7, 19, 20, 21] (h := hk)
        ·skip
         as_aux_lemma =>
          refine AnyL.gg (n := 0) 8 [10, 19, 20, 21, 22, 23, 24, 25] (h := ?_)
          exact AnyL.ln [3, 7, 19, 20, 21] (h := hk)
       ·skip
        as_aux_lemma =>
         refine AnyL.gg (n := 0) 9 [9, 10, 19, 20, 21, 22, 23, 24, 25] (h := ?_)
         exact AnyL.ln [3, 7, 19, 20, 21] (h := hk)
      ·skip
       as_aux_lemma =>
        refine AnyL.gg (n := 0) 10 [8, 9, 10, 19, 20, 21, 22, 23, 24, 25] (h := ?_)
        exact AnyL.ln [3, 7, 19, 20, 21] (h := hk)
   ·skip
    refine AnyL.fk3w (n := 12) 8 14 17 (k1 := ?_) (k2 := ?_) (k3 := ?_)
    ·skip
     refine AnyL.fk3w (n := 11) 9 14 17 (k1 := ?_) (k2 := ?_) (k3 := ?_)
     ·skip
      refine AnyL.fk3w (n := 10) 10 14 17 (k1 := ?_) (k2 := ?_) (k3 := ?_)
      ·skip
       as_aux_lemma =>
        refine AnyL.gg (n := 0) 10 [14, 17, 18, 19, 20, 21, 22, 23, 24, 25] (h := ?_)
        exact AnyL.ln [3, 7, 19, 20, 21] (h := hk)
      ·skip
       refine AnyL.fk2 (n := 9) 10 17 (k1 := ?_) (k2 := ?_)
       ·skip
        as_aux_lemma =>
         refine AnyL.gg (n := 0) 9 [17, 18, 19, 20, 21, 22, 23, 24, 25] (h := ?_)
         exact AnyL.ln [3, 7, 19, 20, 21] (h := hk)
       ·skip
        refine AnyL.fk2 (n := 8) 10 18 (k1 := ?_) (k2 := ?_)
        ·skip
         as_aux_lemma =>
          refine AnyL.gg (n := 0) 8 [18, 19, 20, 21, 22, 23, 24, 25] (h := ?_)
          exact AnyL.ln [3, 7, 19, 20, 21] (h := hk)
        ·skip
         as_aux_lemma =>
          refine AnyL.gg (n := 0) 8 [10, 19, 20, 21, 22, 23, 24, 25] (h := ?_)
          exact AnyL.ln [3, 7, 19, 20, 21] (h := hk)
      ·skip
       refine AnyL.fk3w (n := 9) 10 14 18 (k1 := ?_) (k2 := ?_) (k3 := ?_)
       ·skip
        as_aux_lemma =>
         refine AnyL.gg (n := 0) 9 [14, 18, 19, 20, 21, 22, 23, 24, 25] (h := ?_)
         exact AnyL.ln [3, 7, 19, 20, 21] (h := hk)
       ·skip
        refine AnyL.fk2 (n := 8) 10 18 (k1 := ?_) (k2 := ?_)
        ·skip
         as_aux_lemma =>
          refine AnyL.gg (n := 0) 8 [18, 19, 20, 21, 22, 23, 24, 25] (h := ?_)
          exact AnyL.ln [3, 7, 19, 20, 21] (h := hk)
        ·skip
         as_aux_lemma =>
          refine AnyL.gg (n := 0) 8 [10, 19, 20, 21, 22, 23, 24, 25] (h := ?_)
          exact AnyL.ln [3, 7, 19, 20, 21] (h := hk)
       ·skip
        refine AnyL.fk2 (n := 8) 10 14 (k1 := ?_) (k2 := ?_)
        ·skip
         as_aux_lemma =>
          refine AnyL.gg (n := 0) 8 [14, 19, 20, 21, 22, 23, 24, 25] (h := ?_)
          exact AnyL.ln [3, 7, 19, 20, 21] (h := hk)
        ·skip
         as_aux_lemma =>
          refine AnyL.gg (n := 0) 8 [10, 19, 20, 21, 22, 23, 24, 25] (h := ?_)
          exact AnyL.ln [3, 7, 19, 20, 21] (h := hk)
     ·skip
      refine AnyL.fk2 (n := 10) 9 17 (k1 := ?_) (k2 := ?_)
      ·skip
       refine AnyL.fk2 (n := 9) 10 17 (k1 := ?_) (k2 := ?_)
       ·skip
        as_aux_lemma =>
         refine AnyL.gg (n := 0) 9 [17, 18, 19, 20, 21, 22, 23, 24, 25] (h := ?_)
         exact AnyL.ln [3, 7, 19, 20, 21] (h := hk)
       ·skip
        refine AnyL.fk2 (n := 8) 10 18 (k1 := ?_) (k2 := ?_)
        ·skip
         as_aux_lemma =>
          refine AnyL.gg (n := 0) 8 [18, 19, 20, 21, 22, 23, 24, 25] (h := ?_)
          exact AnyL.ln [3, 7, 19, 20, 21] (h := hk)
        ·skip
         as_aux_lemma =>
          refine AnyL.gg (n := 0) 8 [10, 19, 20, 21, 22, 23, 24, 25] (h := ?_)
          exact AnyL.ln [3, 7, 19, 20, 21] (h := hk)
      ·skip
       refine AnyL.fk2 (n := 9) 9 18 (k1 := ?_) (k2 := ?_)
       ·skip
        refine AnyL.fk2 (n := 8) 10 18 (k1 := ?_) (k2 := ?_)
        ·skip
         as_aux_lemma =>
          refine AnyL.gg (n := 0) 8 [18, 19, 20, 21, 22, 23, 24, 25] (h := ?_)
          exact AnyL.ln [3, 7, 19, 20, 21] (h := hk)
        ·skip
         as_aux_lemma =>
          refine AnyL.gg (n := 0) 8 [10, 19, 20, 21, 22, 23, 24, 25] (h := ?_)
          exact AnyL.ln [3, 7, 19, 20, 21] (h := hk)
       ·skip
        as_aux_lemma =>
         refine AnyL.gg (n := 0) 9 [9, 10, 19, 20, 21, 22, 23, 24, 25] (h := ?_)
         exact AnyL.ln [3, 7, 19, 20, 21] (h := hk)
     ·skip
      refine AnyL.fk3w (n := 10) 9 14 18 (k1 := ?_) (k2 := ?_) (k3 := ?_)
      ·skip
       refine AnyL.fk3w (n := 9) 10 14 18 (k1 := ?_) (k2 := ?_) (k3 := ?_)
       ·skip
        as_aux_lemma =>
         refine AnyL.gg (n := 0) 9 [14, 18, 19, 20, 21, 22, 23, 24, 25] (h := ?_)
         exact AnyL.ln [3, 7, 19, 20, 21] (h := hk)
       ·skip
        refine AnyL.fk2 (n := 8) 10 18 (k1 := ?_) (k2 := ?_)
        ·skip
         as_aux_lemma =>
          refine AnyL.gg (n := 0) 8 [18, 19, 20, 21, 22, 23, 24, 25] (h := ?_)
          exact AnyL.ln [3, 7, 19, 20, 21] (h := hk)
        ·skip
         as_aux_lemma =>
          refine AnyL.gg (n := 0) 8 [10, 19, 20, 21, 22, 23, 24, 25] (h := ?_)
          exact AnyL.ln [3, 7, 19, 20, 21] (h := hk)
       ·skip
        refine AnyL.fk2 (n := 8) 10 14 (k1 := ?_) (k2 := ?_)
        ·skip
         as_aux_lemma =>
          refine AnyL.gg (n := 0) 8 [14, 19, 20, 21, 22, 23, 24, 25] (h := ?_)
          exact AnyL.ln [3, 7, 19, 20, 21] (h := hk)
        ·skip
         as_aux_lemma =>
          refine AnyL.gg (n := 0) 8 [10, 19, 20, 21, 22, 23, 24, 25] (h := ?_)
          exact AnyL.ln [3, 7, 19, 20, 21] (h := hk)
      ·skip
       refine AnyL.fk2 (n := 9) 9 18 (k1 := ?_) (k2 := ?_)
       ·skip
        refine AnyL.fk2 (n := 8) 10 18 (k1 := ?_) (k2 := ?_)
        ·skip
         as_aux_lemma =>
          refine AnyL.gg (n := 0) 8 [18, 19, 20, 21, 22, 23, 24, 25] (h := ?_)
          exact AnyL.ln [3, 7, 19, 20, 21] (h := hk)
        ·skip
         as_aux_lemma =>
          refine AnyL.gg (n := 0) 8 [10, 19, 20, 21, 22, 23, 24, 25] (h := ?_)
          exact AnyL.ln [3, 7, 19, 20, 21] (h := hk)
       ·skip
        as_aux_lemma =>
         refine AnyL.gg (n := 0) 9 [9, 10, 19, 20, 21, 22, 23, 24, 25] (h := ?_)
         exact AnyL.ln [3, 7, 19, 20, 21] (h := hk)
      ·skip
       refine AnyL.fk2 (n := 9) 9 14 (k1 := ?_) (k2 := ?_)
       ·skip
        refine AnyL.fk2 (n := 8) 10 14 (k1 := ?_) (k2 := ?_)
        ·skip
         as_aux_lemma =>
          refine AnyL.gg (n := 0) 8 [14, 19, 20, 21, 22, 23, 24, 25] (h := ?_)
          exact AnyL.ln [3, 7, 19, 20, 21] (h := hk)
        ·skip
         as_aux_lemma =>
          refine AnyL.gg (n := 0) 8 [10, 19, 20, 21, 22, 23, 24, 25] (h := ?_)
          exact AnyL.ln [3, 7, 19, 20, 21] (h := hk)
       ·skip
        as_aux_lemma =>
         refine AnyL.gg (n := 0) 9 [9, 10, 19, 20, 21, 22, 23, 24, 25] (h := ?_)
         exact AnyL.ln [3, 7, 19, 20, 21] (h := hk)
    ·skip
     refine AnyL.fk2 (n := 11) 8 17 (k1 := ?_) (k2 := ?_)
     ·skip
      refine AnyL.fk2 (n := 10) 9 17 (k1 := ?_) (k2 := ?_)
      ·skip
       refine AnyL.fk2 (n := 9) 10 17 (k1 := ?_) (k2 := ?_)
       ·skip
        as_aux_lemma =>
         refine AnyL.gg (n := 0) 9 [17, 18, 19, 20, 21, 22, 23, 24, 25] (h := ?_)
         exact AnyL.ln [3, 7, 19, 20, 21] (h := hk)
       ·skip
        refine AnyL.fk2 (n := 8) 10 18 (k1 := ?_) (k2 := ?_)
        ·skip
         as_aux_lemma =>
          refine AnyL.gg (n := 0) 8 [18, 19, 20, 21, 22, 23, 24, 25] (h := ?_)
          exact AnyL.ln [3, 7, 19, 20, 21] (h := hk)
        ·skip
         as_aux_lemma =>
          refine AnyL.gg (n := 0) 8 [10, 19, 20, 21, 22, 23, 24, 25] (h := ?_)
          exact AnyL.ln [3, 7, 19, 20, 21] (h := hk)
      ·skip
       refine AnyL.fk2 (n := 9) 9 18 (k1 := ?_) (k2 := ?_)
       ·skip
        refine AnyL.fk2 (n := 8) 10 18 (k1 := ?_) (k2 := ?_)
        ·skip
         as_aux_lemma =>
          refine AnyL.gg (n := 0) 8 [18, 19, 20, 21, 22, 23, 24, 25] (h := ?_)
          exact AnyL.ln [3, 7, 19, 20, 21] (h := hk)
        ·skip
         as_aux_lemma =>
          refine AnyL.gg (n := 0) 8 [10, 19, 20, 21, 22, 23, 24, 25] (h := ?_)
          exact AnyL.ln [3, 7, 19, 20, 21] (h := hk)
       ·skip
        as_aux_lemma =>
         refine AnyL.gg (n := 0) 9 [9, 10, 19, 20, 21, 22, 23, 24, 25] (h := ?_)
         exact AnyL.ln [3, 7, 19, 20, 21] (h := hk)
     ·skip
      refine AnyL.fk2 (n := 10) 8 18 (k1 := ?_) (k2 := ?_)
      ·skip
       refine AnyL.fk2 (n := 9) 9 18 (k1 := ?_) (k2 := ?_)
       ·skip
        refine AnyL.fk2 (n := 8) 10 18 (k1 := ?_) (k2 := ?_)
        ·skip
         as_aux_lemma =>
          refine AnyL.gg (n := 0) 8 [18, 19, 20, 21, 22, 23, 24, 25] (h := ?_)
          exact AnyL.ln [3, 7, 19, 20, 21] (h := hk)
        ·skip
         as_aux_lemma =>
          refine AnyL.gg (n := 0) 8 [10, 19, 20, 21, 22, 23, 24, 25] (h := ?_)
          exact AnyL.ln [3, 7, 19, 20, 21] (h := hk)
       ·skip
        as_aux_lemma =>
         refine AnyL.gg (n := 0) 9 [9, 10, 19, 20, 21, 22, 23, 24, 25] (h := ?_)
         exact AnyL.ln [3, 7, 19, 20, 21] (h := hk)
      ·skip
       as_aux_lemma =>
        refine AnyL.gg (n := 0) 10 [8, 9, 10, 19, 20, 21, 22, 23, 24, 25] (h := ?_)
        exact AnyL.ln [3, 7, 19, 20, 21] (h := hk)
    ·skip
     refine AnyL.fk3w (n := 11) 8 14 18 (k1 := ?_) (k2 := ?_) (k3 := ?_)
     ·skip
      refine AnyL.fk3w (n := 10) 9 14 18 (k1 := ?_) (k2 := ?_) (k3 := ?_)
      ·skip
       refine AnyL.fk3w (n := 9) 10 14 18 (k1 := ?_) (k2 := ?_) (k3 := ?_)
       ·skip
        as_aux_lemma =>
         refine AnyL.gg (n := 0) 9 [14, 18, 19, 20, 21, 22, 23, 24, 25] (h := ?_)
         exact AnyL.ln [3, 7, 19, 20, 21] (h := hk)
       ·skip
        refine AnyL.fk2 (n := 8) 10 18 (k1 := ?_) (k2 := ?_)
        ·skip
         as_aux_lemma =>
          refine AnyL.gg (n := 0) 8 [18, 19, 20, 21, 22, 23, 24, 25] (h := ?_)
          exact AnyL.ln [3, 7, 19, 20, 21] (h := hk)
        ·skip
         as_aux_lemma =>
          refine AnyL.gg (n := 0) 8 [10, 19, 20, 21, 22, 23, 24, 25] (h := ?_)
          exact AnyL.ln [3, 7, 19, 20, 21] (h := hk)
       ·skip
        refine AnyL.fk2 (n := 8) 10 14 (k1 := ?_) (k2 := ?_)
        ·skip
         as_aux_lemma =>
          refine AnyL.gg (n := 0) 8 [14, 19, 20, 21, 22, 23, 24, 25] (h := ?_)
          exact AnyL.ln [3, 7, 19, 20, 21] (h := hk)
        ·skip
         as_aux_lemma =>
          refine AnyL.gg (n := 0) 8 [10, 19, 20, 21, 22, 23, 24, 25] (h := ?_)
          exact AnyL.ln [3, 7, 19, 20, 21] (h := hk)
      ·skip
       refine AnyL.fk2 (n := 9) 9 18 (k1 := ?_) (k2 := ?_)
       ·skip
        refine AnyL.fk2 (n := 8) 10 18 (k1 := ?_) (k2 := ?_)
        ·skip
         as_aux_lemma =>
          refine AnyL.gg (n := 0) 8 [18, 19, 20, 21, 22, 23, 24, 25] (h := ?_)
          exact AnyL.ln [3, 7, 19, 20, 21] (h := hk)
        ·skip
         as_aux_lemma =>
          refine AnyL.gg (n := 0) 8 [10, 19, 20, 21, 22, 23, 24, 25] (h := ?_)
          exact AnyL.ln [3, 7, 19, 20, 21] (h := hk)
       ·skip
        as_aux_lemma =>
         refine AnyL.gg (n := 0) 9 [9, 10, 19, 20, 21, 22, 23, 24, 25] (h := ?_)
         exact AnyL.ln [3, 7, 19, 20, 21] (h := hk)
      ·skip
       refine AnyL.fk2 (n := 9) 9 14 (k1 := ?_) (k2 := ?_)
       ·skip
        refine AnyL.fk2 (n := 8) 10 14 (k1 := ?_) (k2 := ?_)
        ·skip
         as_aux_lemma =>
          refine AnyL.gg (n := 0) 8 [14, 19, 20, 21, 22, 23, 24, 25] (h := ?_)
          exact AnyL.ln [3, 7, 19, 20, 21] (h := hk)
        ·skip
         as_aux_lemma =>
          refine AnyL.gg (n := 0) 8 [10, 19, 20, 21, 22, 23, 24, 25] (h := ?_)
          exact AnyL.ln [3, 7, 19, 20, 21] (h := hk)
       ·skip
        as_aux_lemma =>
         refine AnyL.gg (n := 0) 9 [9, 10, 19, 20, 21, 22, 23, 24, 25] (h := ?_)
         exact AnyL.ln [3, 7, 19, 20, 21] (h := hk)
     ·skip
      refine AnyL.fk2 (n := 10) 8 18 (k1 := ?_) (k2 := ?_)
      ·skip
       refine AnyL.fk2 (n := 9) 9 18 (k1 := ?_) (k2 := ?_)
       ·skip
        refine AnyL.fk2 (n := 8) 10 18 (k1 := ?_) (k2 := ?_)
        ·skip
         as_aux_lemma =>
          refine AnyL.gg (n := 0) 8 [18, 19, 20, 21, 22, 23, 24, 25] (h := ?_)
          exact AnyL.ln [3, 7, 19, 20, 21] (h := hk)
        ·skip
         as_aux_lemma =>
          refine AnyL.gg (n := 0) 8 [10, 19, 20, 21, 22, 23, 24, 25] (h := ?_)
          exact AnyL.ln [3, 7, 19, 20, 21] (h := hk)
       ·skip
        as_aux_lemma =>
         refine AnyL.gg (n := 0) 9 [9, 10, 19, 20, 21, 22, 23, 24, 25] (h := ?_)
         exact AnyL.ln [3, 7, 19, 20, 21] (h := hk)
      ·skip
       as_aux_lemma =>
        refine AnyL.gg (n := 0) 10 [8, 9, 10, 19, 20, 21, 22, 23, 24, 25] (h := ?_)
        exact AnyL.ln [3, 7, 19, 20, 21] (h := hk)
     ·skip
      refine AnyL.fk2 (n := 10) 8 14 (k1 := ?_) (k2 := ?_)
      ·skip
       refine AnyL.fk2 (n := 9) 9 14 (k1 := ?_) (k2 := ?_)
       ·skip
        refine AnyL.fk2 (n := 8) 10 14 (k1 := ?_) (k2 := ?_)
        ·skip
         as_aux_lemma =>
          refine AnyL.gg (n := 0) 8 [14, 19, 20, 21, 22, 23, 24, 25] (h := ?_)
          exact AnyL.ln [3, 7, 19, 20, 21] (h := hk)
        ·skip
         as_aux_lemma =>
          refine AnyL.gg (n := 0) 8 [10, 19, 20, 21, 22, 23, 24, 25] (h := ?_)
          exact AnyL.ln [3, 7, 19, 20, 21] (h := hk)
       ·skip
        as_aux_lemma =>
         refine AnyL.gg (n := 0) 9 [9, 10, 19, 20, 21, 22, 23, 24, 25] (h := ?_)
         exact AnyL.ln [3, 7, 19, 20, 21] (h := hk)
      ·skip
       as_aux_lemma =>
        refine AnyL.gg (n := 0) 10 [8, 9, 10, 19, 20, 21, 22, 23, 24, 25] (h := ?_)
        exact AnyL.ln [3, 7, 19, 20, 21] (h := hk)
  refine G.lastE 5 0 7 (f := ovL) (l := (toT ps ks 0).take j) (List.replicate (ps.getD j default).i.toNat 0) rfl rfl rfl (by decide) (by simp) (pureLL_iv _) rfl ?_
  refine G.lastE 6 0 8 (f := ovL) (l := (frT ps ks 0).take j) (List.replicate (ps.getD j default).o.toNat 0) rfl rfl rfl (by decide) (by simp) (pureLL_iv _) rfl ?_
  rw [hjtoT, hjfrT]
  apply G.blk
  refine G.fg [3, 7, 19, 20, 21] (hk := ?_)
  refine G.rg tab_ok ok_newRun (hk := ?_)
  refine G.nm [3, 7, 19, 20, 21] (h := ?_)
  exact G.upto (hJ (j + 1) (by omega) (by omega)) (by simp)
 ·try simp only [zqz] at h1
  refine G.exit rfl ?_
  apply G.seq
  apply G.seq
  refine G.rg tab_ok ok_newRun (hk := ?_)
  apply G.block
  obtain rfl : j = ps.length := by omega
  have hft1 : List.take ps.length (toT ps ks 0) = toT ps ks 0 := List.take_of_length_le (by rw [toT_len]; exact Nat.le_refl _)
  have hft2 : List.take ps.length (frT ps ks 0) = frT ps ks 0 := List.take_of_length_le (by rw [frT_len]; exact Nat.le_refl _)
  rw [hft1, hft2]
  clear hJ hj
  refine G.nm [7, 51, 52, 53] (h := ?_)
  refine G.loopX (fun j : Nat => ⟨[(7, .ptr 0 0 0), (51, .row false 5 (ks.map kv)), (52, .int .i64 ks.length), (53, .int .i64 j)], [some (9, [[.row false 3 (ps.map pv), .row false 5 (ks.map kv), .sl 1 0 xs.length, .sl 2 0 qs.length, .sl 3 0 hs.length, .int .i64 t, .sl 4 0 ps.length, .sl 5 0 ps.length, .nils]]), some (2, xs.map oav), some (1, qs.map ovL), some (1, hs.map ovL), some (1, (toT ps ks j).map ovL), some (1, (frT ps ks j).map ovL)], 90⟩) (fun j => j ≤ ks.length) (fun j => ks.length - j) (0) (Nat.zero_le _) (by simp) ?_
  intro j hj J hJ
  have hw : IntKind.i64.wrap ((j : Int) + 1) = (j : Int) + 1 := wrap64 (by omega) (by omega)
  apply G.seq
  refine G.rg tab_ok ok_newRun (hk := ?_)
  apply G.seq
  refine G.iff (h1 := fun h2 => ?_) (h2 := fun h2 => ?_)
  ·try simp only [zqz] at h2
   apply G.skip
   apply G.seq
   apply G.block
   apply G.seq
   have hjk : j < ks.length := by omega
   refine G.rg tab_ok ok_newRun (hk := ?_)
   apply G.seq
   apply G.seq
   refine G.nm [7, 10, 11, 51, 52, 53] (h := ?_)
   refine G.rg tab_ok ok_newRun (hk := ?_)
   refine G.fg [7, 10, 11, 51, 52, 53, 60, 61, 62, 63, 64, 65, 66, 67, 68, 69, 70, 71, 72, 76, 77, 78, 79, 80, 81, 82, 83, 84, 85, 86, 87] (hk := ?_)
   refine G.iff (h1 := fun h3 => ?_) (h2 := fun h3 => ?_)
   ·try simp only [zqz] at h3
    obtain ⟨e1, e2, e3⟩ := ends_to (linkOk_ends (hnw.lk j hjk)) h3
    have e4 := toT_row (ps := ps) (ks := ks) e1 j
    have e5 : (ks.getD j default).to.toNat < (toT ps ks j).length := by rw [toT_len]; exact e1
    have e6 : (ks.getD j default).ip < ((((toT ps ks j).getD (ks.getD j default).to.toNat default).length : Nat) : Int) := by omega
    have e7 : (ks.getD j default).ip.toNat < ((toT ps ks j).getD (ks.getD j default).to.toNat default).length := by omega
    have e8 : (ks.getD j default).to < (ps.length : Int) := by omega
    have g0 : (0 : Int) ≤ (ks.getD j default).to := h3
    have hT := toT_yes (ps := ps) (ks := ks) (j := j) h3
    clear e3 e4
    obtain ⟨r, hr⟩ : ∃ x, (toT ps ks j).getD (ks.getD j default).to.toNat default = x := ⟨_, rfl⟩
    rw [hr] at e6 e7 hT
    have hge1 : ∀ a : List A, (((toT ps ks j).map ovL).set (ks.getD j default).to.toNat a)[(ks.getD j default).to.toNat]? = some a := fun a => List.getElem?_set_self (by rw [List.length_map]; exact e5)
    have hrd1 : ∀ a : A, rdCells (((toT ps ks j).map ovL).set (ks.getD j default).to.toNat [a]) (ks.getD j default).to.toNat 0 1 = some [a] := fun a => by simp only [rdCells, hge1]; rfl
    have hge2 : (r.map iv)[(ks.getD j default).ip.toNat]? = some [.int .i64 (r.getD (ks.getD j default).ip.toNat default)] := by rw [List.getElem?_map, getD_some e7]; rfl
    have hset : (r.map iv).set (ks.getD j default).ip.toNat [.int .i64 (j : Int)] = (r.set (ks.getD j default).ip.toNat (j : Int)).map iv := by rw [List.map_set]; rfl
    refine G.focusO 5 (ks.getD j default).to.toNat (outs := toT ps ks j) rfl e5 ?_
    rw [hr]
    simp only [withH, List.set_cons_succ, List.set_cons_zero, List.nil_append, List.cons_append, List.length_cons, List.length_nil, List.length_map, Nat.zero_add, Nat.reduceAdd]
    refine G.dr mixed tab_ok ok_newRun [0, 1, 2, 3, 4, 5, 6, 7, 8, 9, 10, 11, 12] (hk := ?_)
    refine G.unfocusO 5 (ks.getD j default).to.toNat 7 (r := r.set (ks.getD j default).ip.toNat (j : Int)) rfl rfl (by decide) (by simp) e5 ?_
    rw [hT]
    apply G.seq
    refine G.nm [7, 10, 11, 51, 52, 53] (h := ?_)
    try have hT1 : toT ps ks (j + 1) = toT ps ks j := toT_no (by omega)
    refine G.rg tab_ok ok_newRun (hk := ?_)
    refine G.fg [7, 10, 11, 51, 52, 53, 75, 76, 77, 78, 79, 80, 81, 82, 83, 84, 85, 86, 87] (hk := ?_)
    refine G.iff (h1 := fun h4 => ?_) (h2 := fun h4 => ?_)
    ·try simp only [zqz] at h4
     obtain ⟨e1, e2, e3⟩ := ends_fr (linkOk_ends (hnw.lk j hjk)) h4
     have e4 := frT_row (ps := ps) (ks := ks) e1 j
     have e5 : (ks.getD j default).fr.toNat < (frT ps ks j).length := by rw [frT_len]; exact e1
     have e6 : (ks.getD j default).ou < ((((frT ps ks j).getD (ks.getD j default).fr.toNat default).length : Nat) : Int) := by omega
     have e7 : (ks.getD j default).ou.toNat < ((frT ps ks j).getD (ks.getD j default).fr.toNat default).length := by omega
     have e8 : (ks.getD j default).fr < (ps.length : Int) := by omega
     have g0 : (0 : Int) ≤ (ks.getD j default).fr := h4
     have hT := frT_yes (ps := ps) (ks := ks) (j := j) h4
     clear e3 e4
     obtain ⟨r, hr⟩ : ∃ x, (frT ps ks j).getD (ks.getD j default).fr.toNat default = x := ⟨_, rfl⟩
     rw [hr] at e6 e7 hT
     have hge1 : ∀ a : List A, (((frT ps ks j).map ovL).set (ks.getD j default).fr.toNat a)[(ks.getD j default).fr.toNat]? = some a := fun a => List.getElem?_set_self (by rw [List.length_map]; exact e5)
     have hrd1 : ∀ a : A, rdCells (((frT ps ks j).map ovL).set (ks.getD j default).fr.toNat [a]) (ks.getD j default).fr.toNat 0 1 = some [a] := fun a => by simp only [rdCells, hge1]; rfl
     have hge2 : (r.map iv)[(ks.getD j default).ou.toNat]? = some [.int .i64 (r.getD (ks.getD j default).ou.toNat default)] := by rw [List.getElem?_map, getD_some e7]; rfl
     have hset : (r.map iv).set (ks.getD j default).ou.toNat [.int .i64 (j : Int)] = (r.set (ks.getD j default).ou.toNat (j : Int)).map iv := by rw [List.map_set]; rfl
     refine G.focusO 6 (ks.getD j default).fr.toNat (outs := frT ps ks j) rfl e5 ?_
     rw [hr]
     simp only [withH, List.set_cons_succ, List.set_cons_zero, List.nil_append, List.cons_append, List.length_cons, List.length_nil, List.length_map, Nat.zero_add, Nat.reduceAdd]
     refine G.dr mixed tab_ok ok_newRun [0, 1, 2, 3, 4, 5, 6, 7, 8, 9, 10, 11, 12] (hk := ?_)
     refine G.unfocusO 6 (ks.getD j default).fr.toNat 7 (r := r.set (ks.getD j default).ou.toNat (j : Int)) rfl rfl (by decide) (by simp) e5 ?_
     rw [hT]
     apply G.blk
     try have hF1 : frT ps ks (j + 1) = frT ps ks j := frT_no (by omega)
     refine G.rg tab_ok ok_newRun (hk := ?_)
     refine G.nm [7, 51, 52, 53] (h := ?_)
     exact G.upto (hJ (j + 1) (by omega) (by omega)) (by first | (simp; done) | (rw [hT1]; simp; done) | (rw [hF1]; simp; done) | (rw [hT1, hF1]; simp; done))
    ·try simp only [zqz] at h4
     apply G.skip
     apply G.blk
     try have hF1 : frT ps ks (j + 1) = frT ps ks j := frT_no (by omega)
     refine G.rg tab_ok ok_newRun (hk := ?_)
     refine G.nm [7, 51, 52, 53] (h := ?_)
     exact G.upto (hJ (j + 1) (by omega) (by omega)) (by first | (simp; done) | (rw [hT1]; simp; done) | (rw [hF1]; simp; done) | (rw [hT1, hF1]; simp; done))
   ·try simp only [zqz] at h3
    apply G.skip
    apply G.seq
    refine G.nm [7, 10, 11, 51, 52, 53] (h := ?_)
    try have hT1 : toT ps ks (j + 1) = toT ps ks j := toT_no (by omega)
    refine G.rg tab_ok ok_newRun (hk := ?_)
    refine G.iff (h1 := fun h5 => ?_) (h2 := fun h5 => ?_)
    ·try simp only [zqz] at h5
     obtain ⟨e1, e2, e3⟩ := ends_fr (linkOk_ends (hnw.lk j hjk)) h5
     have e4 := frT_row (ps := ps) (ks := ks) e1 j
     have e5 : (ks.getD j default).fr.toNat < (frT ps ks j).length := by rw [frT_len]; exact e1
     have e6 : (ks.getD j default).ou < ((((frT ps ks j).getD (ks.getD j default).fr.toNat default).length : Nat) : Int) := by omega
     have e7 : (ks.getD j default).ou.toNat < ((frT ps ks j).getD (ks.getD j default).fr.toNat default).length := by omega
     have e8 : (ks.getD j default).fr < (ps.length : Int) := by omega
     have g0 : (0 : Int) ≤ (ks.getD j default).fr := h5
     have hT := frT_yes (ps := ps) (ks := ks) (j := j) h5
     clear e3 e4
     obtain ⟨r, hr⟩ : ∃ x, (frT ps ks j).getD (ks.getD j default).fr.toNat default = x := ⟨_, rfl⟩
     rw [hr] at e6 e7 hT
     have hge1 : ∀ a : List A, (((frT ps ks j).map ovL).set (ks.getD j default).fr.toNat a)[(ks.getD j default).fr.toNat]? = some a := fun a => List.getElem?_set_self (by rw [List.length_map]; exact e5)
     have hrd1 : ∀ a : A, rdCells (((frT ps ks j).map ovL).set (ks.getD j default).fr.toNat [a]) (ks.getD j default).fr.toNat 0 1 = some [a] := fun a => by simp only [rdCells, hge1]; rfl
     have hge2 : (r.map iv)[(ks.getD j default).ou.toNat]? = some [.int .i64 (r.getD (ks.getD j default).ou.toNat default)] := by rw [List.getElem?_map, getD_some e7]; rfl
     have hset : (r.map iv).set (ks.getD j default).ou.toNat [.int .i64 (j : Int)] = (r.set (ks.getD j default).ou.toNat (j : Int)).map iv := by rw [List.map_set]; rfl
     refine G.focusO 6 (ks.getD j default).fr.toNat (outs := frT ps ks j) rfl e5 ?_
     rw [hr]
     simp only [withH, List.set_cons_succ, List.set_cons_zero, List.nil_append, List.cons_append, List.length_cons, List.length_nil, List.length_map, Nat.zero_add, Nat.reduceAdd]
     refine G.dr mixed tab_ok ok_newRun [0, 1, 2, 3, 4, 5, 6, 7, 8, 9, 10, 11, 12] (hk := ?_)
     refine G.unfocusO 6 (ks.getD j default).fr.toNat 7 (r := r.set (ks.getD j default).ou.toNat (j : Int)) rfl rfl (by decide) (by simp) e5 ?_
     rw [hT]
     apply G.blk
     try have hF1 : frT ps ks (j + 1) = frT ps ks j := frT_no (by omega)
     refine G.rg tab_ok ok_newRun (hk := ?_)
     refine G.nm [7, 51, 52, 53] (h := ?_)
     exact G.upto (hJ (j + 1) (by omega) (by omega)) (by first | (simp; done) | (rw [hT1]; simp; done) | (rw [hF1]; simp; done) | (rw [hT1, hF1]; simp; done))
    ·try simp only [zqz] at h5
     apply G.skip
     apply G.blk
     try have hF1 : frT ps ks (j + 1) = frT ps ks j := frT_no (by omega)
     refine G.rg tab_ok ok_newRun (hk := ?_)
     refine G.nm [7, 51, 52, 53] (h := ?_)
     exact G.upto (hJ (j + 1) (by omega) (by omega)) (by first | (simp; done) | (rw [hT1]; simp; done) | (rw [hF1]; simp; done) | (rw [hT1, hF1]; simp; done))
  ·try simp only [zqz] at h2
   refine G.exit rfl ?_
   apply G.seq
   refine G.rg tab_ok ok_newRun (hk := ?_)
   obtain rfl : j = ks.length := by omega
   have hfo : ∀ x : List (List Int), List.take x.length (x.map ovL) = x.map ovL := fun x => List.take_of_length_le (by simp)
   have hl1 : ps.length ≤ (toT ps ks ks.length).length := by rw [toT_len]; exact Nat.le_refl _
   have hl2 : ps.length ≤ (frT ps ks ks.length).length := by rw [frT_len]; exact Nat.le_refl _
   have hl3 : List.take ps.length ((toT ps ks ks.length).map ovL) = (toT ps ks ks.length).map ovL := List.take_of_length_le (by rw [List.length_map, toT_len]; exact Nat.le_refl _)
   have hl4 : List.take ps.length ((frT ps ks ks.length).map ovL) = (frT ps ks ks.length).map ovL := List.take_of_length_le (by rw [List.length_map, frT_len]; exact Nat.le_refl _)
   refine G.fb 0 (h := ?_)
   refine G.fin tab_ok (hr := ?_)
   rfl
def r_newRun (xs0 : List A) (rr : A) : Prop := ∃ (ps : List PG) (ks : List LK) (xs : List AT) (qs : List (List Int)) (hs : List (List Int)) (t : Int), (stOk ps ks xs qs hs t = true) ∧ xs0 = [.agg [.row false 3 (ps.map pv), .row false 5 (ks.map kv)], .agg [.row false 2 (xs.map av), .row false 1 (qs.map ivL), .row false 1 (hs.map ivL), .int .i64 t], .nils] ∧ rr = .box [.row false 3 (ps.map pv), .row false 5 (ks.map kv), .row true 2 (xs.map oav), .row true 1 (qs.map ovL), .row true 1 (hs.map ovL), .int .i64 t, .row true 1 ((toT ps ks ks.length).map ovL), .row true 1 ((frT ps ks ks.length).map ovL), .nils]
noncomputable def q_newRun : List A → Option A := kgr r_newRun
theorem k_newRun : KOk Try.prog (66, q_newRun) := kgr_ok (enters_of Try.func66 rfl rfl) (by rintro xs0 rr ⟨ps, ks, xs, qs, hs, t, hc1, rfl, rfl⟩; exact newRun_ac ps ks xs qs hs t hc1)
theorem e_newRun : ∀ (ps : List PG) (ks : List LK) (xs : List AT) (qs : List (List Int)) (hs : List (List Int)) (t : Int), (stOk ps ks xs qs hs t = true) → q_newRun [.agg [.row false 3 (ps.map pv), .row false 5 (ks.map kv)], .agg [.row false 2 (xs.map av), .row false 1 (qs.map ivL), .row false 1 (hs.map ivL), .int .i64 t], .nils] = some (.box [.row false 3 (ps.map pv), .row false 5 (ks.map kv), .row true 2 (xs.map oav), .row true 1 (qs.map ovL), .row true 1 (hs.map ovL), .int .i64 t, .row true 1 ((toT ps ks ks.length).map ovL), .row true 1 ((frT ps ks ks.length).map ovL), .nils]) := by
 intro ps ks xs qs hs t hc1
 refine kgr_eq (fun xs0 rr r2 h h2 => ?_) ⟨ps, ks, xs, qs, hs, t, hc1, rfl, rfl⟩
 obtain ⟨ps1, ks1, xs1, qs1, hs1, t1, _, e1, rfl⟩ := h; obtain ⟨ps2, ks2, xs2, qs2, hs2, t2, _, e2, rfl⟩ := h2
 rw [e1] at e2
 simp only [List.cons.injEq, A.int.injEq, A.agg.injEq, A.row.injEq, pv_inj, kv_inj, av_inj, ivL_inj, true_and, and_true] at e2
 obtain ⟨⟨e1, e2⟩, e3, e4, e5, e6⟩ := e2
 subst e1 e2 e3 e4 e5 e6
 rfl
end Go.Proofs.Ytimgfinlbhodhaa.Ab
