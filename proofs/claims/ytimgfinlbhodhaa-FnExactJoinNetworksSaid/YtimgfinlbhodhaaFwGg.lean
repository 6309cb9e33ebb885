/- Walks of functions of the program, and the plain definitions. -/
import Derived.Test.YtimgfinlbhodhaaFwGf
import Derived.Test.YtimgfinlbhodhaaFwGe
namespace Go.Proofs.Ytimgfinlbhodhaa.Ab
open Go
set_option linter.unusedVariables false
set_option linter.unusedSimpArgs false
set_option maxHeartbeats 4000000
theorem l3Program_ac (i : Int) (o : Int) (l : List I4) (hc1 : l.length ≤ 1048576) : AC Try.prog 106 [.agg [.int .i64 i, .int .i64 o, .row false 4 (l.map insv)]] (.agg [.int .i64 i, .int .i64 o, .row true 4 (l.map insv)]) := by
 have hb1 : ((0 + l.length : Nat) : Int) ≤ 4611686018427387904 := by omega
 have hb2 : (0 + l.length) * 32 ≤ 70368744177664 := by omega
 have hb3 : (l.length : Int) ≤ 4611686018427387904 := by omega
 have hb4 : l.length * 32 ≤ 70368744177664 := by omega
 have hcpi := copyable_insv
 refine AC.of tab_ok Try.func106 rfl (Nat.le_of_ble_eq_true rfl) fun w0 S0 => ?_
 change G _ _ ⟨[(0, .agg [.int .i64 i, .int .i64 o, .row false 4 (l.map insv)])], [], 12⟩
 apply G.seq
 refine G.rg tab_ok (kof_nil _) (hk := ?_)
 apply G.seq
 apply G.joinR
 ·intro hk
  refine G.drawL (c := ⟨Try.prog, tab, _, _, _, _, _⟩) mixed tab_ok (kof_nil _) 10 ?_ rfl
  refine AnyL.gg (n := 6) 4 [0, 2, 5, 6] (h := ?_)
  refine AnyL.fk3w (n := 5) 1 3 4 (k1 := ?_) (k2 := ?_) (k3 := ?_)
  ·skip
   refine AnyL.fk2 (n := 4) 3 4 (k1 := ?_) (k2 := ?_)
   ·skip
    refine AnyL.gg (n := 0) 4 [4, 7, 8, 9] (h := ?_)
    exact AnyL.ln [2] (h := hk)
   ·skip
    refine AnyL.fk2 (n := 3) 3 7 (k1 := ?_) (k2 := ?_)
    ·skip
     refine AnyL.gg (n := 0) 3 [7, 8, 9] (h := ?_)
     exact AnyL.ln [2] (h := hk)
    ·skip
     refine AnyL.gg (n := 0) 3 [3, 8, 9] (h := ?_)
     exact AnyL.ln [2] (h := hk)
  ·skip
   refine AnyL.fk2 (n := 4) 1 4 (k1 := ?_) (k2 := ?_)
   ·skip
    refine AnyL.gg (n := 0) 4 [4, 7, 8, 9] (h := ?_)
    exact AnyL.ln [2] (h := hk)
   ·skip
    refine AnyL.fk2 (n := 3) 1 7 (k1 := ?_) (k2 := ?_)
    ·skip
     refine AnyL.gg (n := 0) 3 [7, 8, 9] (h := ?_)
     exact AnyL.ln [2] (h := hk)
    ·skip
     refine AnyL.gg (n := 0) 3 [1, 8, 9] (h := ?_)
     exact AnyL.ln [2] (h := hk)
  ·skip
   refine AnyL.fk3w (n := 4) 1 3 7 (k1 := ?_) (k2 := ?_) (k3 := ?_)
   ·skip
    refine AnyL.fk2 (n := 3) 3 7 (k1 := ?_) (k2 := ?_)
    ·skip
     refine AnyL.gg (n := 0) 3 [7, 8, 9] (h := ?_)
     exact AnyL.ln [2] (h := hk)
    ·skip
     refine AnyL.gg (n := 0) 3 [3, 8, 9] (h := ?_)
     exact AnyL.ln [2] (h := hk)
   ·skip
    refine AnyL.fk2 (n := 3) 1 7 (k1 := ?_) (k2 := ?_)
    ·skip
     refine AnyL.gg (n := 0) 3 [7, 8, 9] (h := ?_)
     exact AnyL.ln [2] (h := hk)
    ·skip
     refine AnyL.gg (n := 0) 3 [1, 8, 9] (h := ?_)
     exact AnyL.ln [2] (h := hk)
   ·skip
    refine AnyL.gg (n := 0) 4 [1, 3, 8, 9] (h := ?_)
    exact AnyL.ln [2] (h := hk)
 refine G.fin tab_ok (hr := ?_)
 rfl
def r_l3Program (xs0 : List A) (rr : A) : Prop := ∃ (i : Int) (o : Int) (l : List I4), (l.length ≤ 1048576) ∧ xs0 = [.agg [.int .i64 i, .int .i64 o, .row false 4 (l.map insv)]] ∧ rr = .agg [.int .i64 i, .int .i64 o, .row true 4 (l.map insv)]
noncomputable def q_l3Program : List A → Option A := kgr r_l3Program
theorem k_l3Program : KOk Try.prog (106, q_l3Program) := kgr_ok (enters_of Try.func106 rfl rfl) (by rintro xs0 rr ⟨i, o, l, hc1, rfl, rfl⟩; exact l3Program_ac i o l hc1)
theorem e_l3Program : ∀ (i : Int) (o : Int) (l : List I4), (l.length ≤ 1048576) → q_l3Program [.agg [.int .i64 i, .int .i64 o, .row false 4 (l.map insv)]] = some (.agg [.int .i64 i, .int .i64 o, .row true 4 (l.map insv)]) := by
 intro i o l hc1
 refine kgr_eq (fun xs0 rr r2 h h2 => ?_) ⟨i, o, l, hc1, rfl, rfl⟩
 obtain ⟨i1, o1, l1, _, e1, rfl⟩ := h; obtain ⟨i2, o2, l2, _, e2, rfl⟩ := h2
 rw [e1] at e2
 simp only [List.cons.injEq, A.int.injEq, A.bool.injEq, A.agg.injEq, A.row.injEq, A.fn.injEq, A.rp.injEq, insv_inj, iv_inj, true_and, and_true] at e2
 simp [e2]
theorem cloneInstr_ac (l : List I4) (hc1 : l.length ≤ 1048576) : AC Try.prog 207 [.row false 4 (l.map insv)] (.row true 4 (l.map insv)) := by
 have hb1 : ((0 + l.length : Nat) : Int) ≤ 4611686018427387904 := by omega
 have hb2 : (0 + l.length) * 32 ≤ 70368744177664 := by omega
 have hb3 : (l.length : Int) ≤ 4611686018427387904 := by omega
 have hb4 : l.length * 32 ≤ 70368744177664 := by omega
 have hcpi := copyable_insv
 refine AC.of tab_ok Try.func207 rfl (Nat.le_of_ble_eq_true rfl) fun w0 S0 => ?_
 change G _ _ ⟨[(0, .row false 4 (l.map insv))], [], 8⟩
 apply G.seq
 refine G.rg tab_ok (kof_nil _) (hk := ?_)
 apply G.seq
 apply G.seq
 refine G.rgN 1 tab_ok (kof_nil _) (hk := ?_)
 refine G.opNil tab_ok rfl rfl rfl rfl rfl rfl rfl (h1 := fun hn => ?_) (h2 := ?_)
 ·refine G.rgC tab_ok (kof_nil _) (hk := ?_)
  refine G.iffT (h1 := ?_)
  apply G.seq
  refine G.rg tab_ok (kof_nil _) (hk := ?_)
  have e : l = [] := by simpa using hn
  subst e
  refine G.nilRow 2 4 rfl ?_
  refine G.fin tab_ok (hr := ?_)
  rfl
 ·refine G.rgC tab_ok (kof_nil _) (hk := ?_)
  refine G.iffF (h2 := ?_)
  apply G.skip
  apply G.seq
  refine G.rg tab_ok (kof_nil _) (hk := ?_)
  refine G.fin tab_ok (hr := ?_)
  rfl
def r_cloneInstr (xs0 : List A) (rr : A) : Prop := ∃ (l : List I4), (l.length ≤ 1048576) ∧ xs0 = [.row false 4 (l.map insv)] ∧ rr = .row true 4 (l.map insv)
noncomputable def q_cloneInstr : List A → Option A := kgr r_cloneInstr
theorem k_cloneInstr : KOk Try.prog (207, q_cloneInstr) := kgr_ok (enters_of Try.func207 rfl rfl) (by rintro xs0 rr ⟨l, hc1, rfl, rfl⟩; exact cloneInstr_ac l hc1)
theorem e_cloneInstr : ∀ (l : List I4), (l.length ≤ 1048576) → q_cloneInstr [.row false 4 (l.map insv)] = some (.row true 4 (l.map insv)) := by
 intro l hc1
 refine kgr_eq (fun xs0 rr r2 h h2 => ?_) ⟨l, hc1, rfl, rfl⟩
 obtain ⟨l1, _, e1, rfl⟩ := h; obtain ⟨l2, _, e2, rfl⟩ := h2
 rw [e1] at e2
 simp only [List.cons.injEq, A.int.injEq, A.bool.injEq, A.agg.injEq, A.row.injEq, A.fn.injEq, A.rp.injEq, insv_inj, iv_inj, true_and, and_true] at e2
 simp [e2]
theorem ok_copyProgram : Kn.ok Try.prog (kof [(207, q_cloneInstr)]) := kof_cons k_cloneInstr ((kof_nil _))
theorem copyProgram_ac (i : Int) (o : Int) (l : List I4) (hc1 : l.length ≤ 1048576) : AC Try.prog 181 [.agg [.int .i64 i, .int .i64 o, .row false 4 (l.map insv)]] (.agg [.int .i64 i, .int .i64 o, .row true 4 (l.map insv)]) := by
 have e_cloneInstr := e_cloneInstr
 refine AC.of tab_ok Try.func181 rfl (Nat.le_of_ble_eq_true rfl) fun w0 S0 => ?_
 change G _ _ ⟨[(0, .agg [.int .i64 i, .int .i64 o, .row false 4 (l.map insv)])], [], 8⟩
 apply G.seq
 refine G.rg tab_ok ok_copyProgram (hk := ?_)
 apply G.seq
 refine G.rg tab_ok ok_copyProgram (hk := ?_)
 apply G.seq
 refine G.rg tab_ok ok_copyProgram (hk := ?_)
 refine G.fin tab_ok (hr := ?_)
 rfl
def r_copyProgram (xs0 : List A) (rr : A) : Prop := ∃ (i : Int) (o : Int) (l : List I4), (l.length ≤ 1048576) ∧ xs0 = [.agg [.int .i64 i, .int .i64 o, .row false 4 (l.map insv)]] ∧ rr = .agg [.int .i64 i, .int .i64 o, .row true 4 (l.map insv)]
noncomputable def q_copyProgram : List A → Option A := kgr r_copyProgram
theorem k_copyProgram : KOk Try.prog (181, q_copyProgram) := kgr_ok (enters_of Try.func181 rfl rfl) (by rintro xs0 rr ⟨i, o, l, hc1, rfl, rfl⟩; exact copyProgram_ac i o l hc1)
theorem e_copyProgram : ∀ (i : Int) (o : Int) (l : List I4), (l.length ≤ 1048576) → q_copyProgram [.agg [.int .i64 i, .int .i64 o, .row false 4 (l.map insv)]] = some (.agg [.int .i64 i, .int .i64 o, .row true 4 (l.map insv)]) := by
 intro i o l hc1
 refine kgr_eq (fun xs0 rr r2 h h2 => ?_) ⟨i, o, l, hc1, rfl, rfl⟩
 obtain ⟨i1, o1, l1, _, e1, rfl⟩ := h; obtain ⟨i2, o2, l2, _, e2, rfl⟩ := h2
 rw [e1] at e2
 simp only [List.cons.injEq, A.int.injEq, A.bool.injEq, A.agg.injEq, A.row.injEq, A.fn.injEq, A.rp.injEq, insv_inj, iv_inj, true_and, and_true] at e2
 simp [e2]
theorem ok_copyNetwork : Kn.ok Try.prog (kof [(181, q_copyProgram), (71, q_cloneInt)]) := kof_cons k_copyProgram (kof_cons k_cloneInt ((kof_nil _)))
theorem copyNetwork_ac (ps : List PG) (ks : List LK) (hc1 : netOk ps ks = true) : AC Try.prog 133 [.agg [.row false 3 (ps.map pv), .row false 5 (ks.map kv)]] (.agg [.row true 3 (ps.map opv), .row true 5 (ks.map okv)]) := by
 have e_copyProgram := e_copyProgram
 have e_cloneInt := e_cloneInt
 have hnw := netOk_w hc1
 have hp12 := hnw.pl
 have hk30 := hnw.kl
 have hsm := net_small hc1
 clear hnw
 refine AC.of tab_ok Try.func133 rfl (Nat.le_of_ble_eq_true rfl) fun w0 S0 => ?_
 change G _ _ ⟨[(0, .agg [.row false 3 (ps.map pv), .row false 5 (ks.map kv)])], [], 43⟩
 apply G.seq
 refine G.rg tab_ok ok_copyNetwork (hk := ?_)
 apply G.seq
 refine G.rg tab_ok ok_copyNetwork (hk := ?_)
 refine G.focusNil 2 0 0 3 rfl rfl rfl ?_
 simp only [withH]
 refine G.focusNil 2 0 1 5 rfl rfl rfl ?_
 simp only [withH]
 apply G.seq
 apply G.seq
 refine G.rg tab_ok ok_copyNetwork (hk := ?_)
 apply G.block
 refine G.nm [1, 2, 3, 10, 11, 12] (h := ?_)
 refine G.loopX (fun j : Nat => ⟨[(1, .ptr 0 0 0), (2, .ptr 1 0 0), (3, .ptr 2 0 0), (10, .row false 3 (ps.map pv)), (11, .int .i64 ps.length), (12, .int .i64 j)], [some (2, [[.row false 3 (ps.map pv), .row false 5 (ks.map kv)]]), some (2, [[.nils, .nils]]), some (2, [[.sl 3 0 j, .sl 4 0 0]]), some (3, (ps.take j).map opv), some (5, [])], 43⟩) (fun j => j ≤ ps.length) (fun j => ps.length - j) (0) (Nat.zero_le _) (by simp) ?_
 intro j hj J hJ
 have hw : IntKind.i64.wrap ((j : Int) + 1) = (j : Int) + 1 := wrap64 (by omega) (by omega)
 apply G.seq
 refine G.rg tab_ok ok_copyNetwork (hk := ?_)
 apply G.seq
 refine G.iff (h1 := fun h1 => ?_) (h2 := fun h1 => ?_)
 ·try simp only [zqz] at h1
  apply G.skip
  apply G.seq
  apply G.block
  apply G.seq
  have hmj : min j ps.length = j := by omega
  have htk1 : List.take j ((ps.take j).map opv) = (ps.take j).map opv := List.take_of_length_le (by simp; omega)
  have htj : ps.take j ++ [ps.getD j default] = ps.take (j + 1) := take_snoc (by omega)
  have hlr : (ps.getD j default).l.length ≤ 1048576 := by have := hsm.1 j (by omega); omega
  have hq1 : ((j + 1 : Nat) : Int) ≤ 4611686018427387904 := by omega
  have hq2 : (j + 1) * 40 ≤ 70368744177664 := by omega
  refine G.rg tab_ok ok_copyNetwork (hk := ?_)
  refine G.dr mixed tab_ok ok_copyNetwork [0, 1, 2, 3, 4, 5, 6, 7] (hk := ?_)
  refine G.lastE 8 2 6 (f := opv) (l := ps.take j) (ps.getD j default) rfl rfl rfl (by decide) (by simp) (pureLL_insv _) rfl ?_
  rw [htj]
  apply G.blk
  refine G.rg tab_ok ok_copyNetwork (hk := ?_)
  refine G.nm [1, 2, 3, 10, 11, 12] (h := ?_)
  exact G.upto (hJ (j + 1) (by omega) (by omega)) (by simp)
 ·try simp only [zqz] at h1
  refine G.exit rfl ?_
  apply G.seq
  apply G.seq
  refine G.rg tab_ok ok_copyNetwork (hk := ?_)
  apply G.block
  obtain rfl : j = ps.length := by omega
  rw [List.take_length]
  refine G.nm [2, 3, 25, 26, 27] (h := ?_)
  refine G.loopX (fun j : Nat => ⟨[(2, .ptr 0 0 0), (3, .ptr 1 0 0), (25, .row false 5 (ks.map kv)), (26, .int .i64 ks.length), (27, .int .i64 j)], [some (2, [[.nils, .nils]]), some (2, [[.sl 2 0 ps.length, .sl 3 0 j]]), some (3, ps.map opv), some (5, (ks.take j).map okv)], 43⟩) (fun j => j ≤ ks.length) (fun j => ks.length - j) (0) (Nat.zero_le _) (by simp) ?_
  intro j hj J hJ
  have hw : IntKind.i64.wrap ((j : Int) + 1) = (j : Int) + 1 := wrap64 (by omega) (by omega)
  apply G.seq
  refine G.rg tab_ok ok_copyNetwork (hk := ?_)
  apply G.seq
  refine G.iff (h1 := fun h2 => ?_) (h2 := fun h2 => ?_)
  ·try simp only [zqz] at h2
   apply G.skip
   apply G.seq
   apply G.block
   apply G.seq
   have hmj : min j ks.length = j := by omega
   have htk1 : List.take j ((ks.take j).map okv) = (ks.take j).map okv := List.take_of_length_le (by simp; omega)
   have htj : ks.take j ++ [ks.getD j default] = ks.take (j + 1) := take_snoc (by omega)
   have hlr : (ks.getD j default).tk.length ≤ 1048576 := by have := hsm.2 j (by omega); omega
   have hq1 : ((j + 1 : Nat) : Int) ≤ 4611686018427387904 := by omega
   have hq2 : (j + 1) * 56 ≤ 70368744177664 := by omega
   refine G.rg tab_ok ok_copyNetwork (hk := ?_)
   apply G.seq
   refine G.rg tab_ok ok_copyNetwork (hk := ?_)
   refine G.rg tab_ok ok_copyNetwork (hk := ?_)
   refine G.lastE 7 4 5 (f := okv) (l := ks.take j) (ks.getD j default) rfl rfl rfl (by decide) (by simp) (pureLL_iv _) rfl ?_
   rw [htj]
   apply G.blk
   refine G.rg tab_ok ok_copyNetwork (hk := ?_)
   refine G.nm [2, 3, 25, 26, 27] (h := ?_)
   exact G.upto (hJ (j + 1) (by omega) (by omega)) (by simp)
  ·try simp only [zqz] at h2
   refine G.exit rfl ?_
   apply G.seq
   refine G.rg tab_ok ok_copyNetwork (hk := ?_)
   obtain rfl : j = ks.length := by omega
   rw [List.take_length]
   refine G.fin tab_ok (hr := ?_)
   rfl
def r_copyNetwork (xs0 : List A) (rr : A) : Prop := ∃ (ps : List PG) (ks : List LK), (netOk ps ks = true) ∧ xs0 = [.agg [.row false 3 (ps.map pv), .row false 5 (ks.map kv)]] ∧ rr = .agg [.row true 3 (ps.map opv), .row true 5 (ks.map okv)]
noncomputable def q_copyNetwork : List A → Option A := kgr r_copyNetwork
theorem k_copyNetwork : KOk Try.prog (133, q_copyNetwork) := kgr_ok (enters_of Try.func133 rfl rfl) (by rintro xs0 rr ⟨ps, ks, hc1, rfl, rfl⟩; exact copyNetwork_ac ps ks hc1)
theorem e_copyNetwork : ∀ (ps : List PG) (ks : List LK), (netOk ps ks = true) → q_copyNetwork [.agg [.row false 3 (ps.map pv), .row false 5 (ks.map kv)]] = some (.agg [.row true 3 (ps.map opv), .row true 5 (ks.map okv)]) := by
 intro ps ks hc1
 refine kgr_eq (fun xs0 rr r2 h h2 => ?_) ⟨ps, ks, hc1, rfl, rfl⟩
 obtain ⟨ps1, ks1, _, e1, rfl⟩ := h; obtain ⟨ps2, ks2, _, e2, rfl⟩ := h2
 rw [e1] at e2
 simp only [List.cons.injEq, A.int.injEq, A.bool.injEq, A.agg.injEq, A.row.injEq, pv_inj, kv_inj, true_and, and_true] at e2
 obtain ⟨e3, e4⟩ := e2
 subst e3 e4
 rfl
theorem ok_checked : Kn.ok Try.prog (kof [(70, q_implIsNetwork), (133, q_copyNetwork)]) := kof_cons k_implIsNetwork (kof_cons k_copyNetwork ((kof_nil _)))
theorem checked_ac (ps : List PG) (ks : List LK) (hc1 : NW ps) (hc2 : KW ks) (hc3 : ps.length < 3518437208781) (hc4 : ks.length < 2513169434844) : AC Try.prog 112 [.agg [.row false 3 (ps.map pv), .row false 5 (ks.map kv)]] (.tup [.agg [.row true 3 ((chk ps ks).1.map opv), .row true 5 ((chk ps ks).2.1.map okv)], .bool (chk ps ks).2.2]) := by
 have e_implIsNetwork := e_implIsNetwork
 have e_copyNetwork := e_copyNetwork
 refine AC.of tab_ok Try.func112 rfl (Nat.le_of_ble_eq_true rfl) fun w0 S0 => ?_
 change G _ _ ⟨[(0, .agg [.row false 3 (ps.map pv), .row false 5 (ks.map kv)])], [], 10⟩
 apply G.seq
 refine G.rg tab_ok ok_checked (hk := ?_)
 apply G.seq
 apply G.seq
 refine G.rg tab_ok ok_checked (hk := ?_)
 refine G.iff (h1 := fun h1 => ?_) (h2 := fun h1 => ?_)
 ·try simp only [zqz] at h1
  apply G.seq
  refine G.rg tab_ok ok_checked (hk := ?_)
  refine G.focusNil 1 0 0 3 rfl rfl rfl ?_
  simp only [withH]
  refine G.focusNil 1 0 1 5 rfl rfl rfl ?_
  simp only [withH]
  refine G.fin tab_ok (hr := ?_)
  simp [oneOrTup, chk, h1]
 ·try simp only [zqz] at h1
  apply G.skip
  apply G.seq
  have hnk : netOk ps ks = true := h1
  refine G.rg tab_ok ok_checked (hk := ?_)
  refine G.fin tab_ok (hr := ?_)
  simp only [List.take_of_length_le, List.length_map, Nat.le_refl, oneOrTup, chk, h1, if_true]
def r_checked (xs0 : List A) (rr : A) : Prop := ∃ (ps : List PG) (ks : List LK), (NW ps) ∧ (KW ks) ∧ (ps.length < 3518437208781) ∧ (ks.length < 2513169434844) ∧ xs0 = [.agg [.row false 3 (ps.map pv), .row false 5 (ks.map kv)]] ∧ rr = .tup [.agg [.row true 3 ((chk ps ks).1.map opv), .row true 5 ((chk ps ks).2.1.map okv)], .bool (chk ps ks).2.2]
noncomputable def q_checked : List A → Option A := kgr r_checked
theorem k_checked : KOk Try.prog (112, q_checked) := kgr_ok (enters_of Try.func112 rfl rfl) (by rintro xs0 rr ⟨ps, ks, hc1, hc2, hc3, hc4, rfl, rfl⟩; exact checked_ac ps ks hc1 hc2 hc3 hc4)
theorem e_checked : ∀ (ps : List PG) (ks : List LK), (NW ps) → (KW ks) → (ps.length < 3518437208781) → (ks.length < 2513169434844) → q_checked [.agg [.row false 3 (ps.map pv), .row false 5 (ks.map kv)]] = some (.tup [.agg [.row true 3 ((chk ps ks).1.map opv), .row true 5 ((chk ps ks).2.1.map okv)], .bool (chk ps ks).2.2]) := by
 intro ps ks hc1 hc2 hc3 hc4
 refine kgr_eq (fun xs0 rr r2 h h2 => ?_) ⟨ps, ks, hc1, hc2, hc3, hc4, rfl, rfl⟩
 obtain ⟨ps1, ks1, _, _, _, _, e1, rfl⟩ := h; obtain ⟨ps2, ks2, _, _, _, _, e2, rfl⟩ := h2
 rw [e1] at e2
 simp only [List.cons.injEq, A.int.injEq, A.bool.injEq, A.agg.injEq, A.row.injEq, pv_inj, kv_inj, true_and, and_true] at e2
 obtain ⟨e3, e4⟩ := e2
 subst e3 e4
 rfl
end Go.Proofs.Ytimgfinlbhodhaa.Ab
