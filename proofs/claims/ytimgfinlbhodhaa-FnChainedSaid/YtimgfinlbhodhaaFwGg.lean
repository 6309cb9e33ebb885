/- Walks of functions of the program: what each answers, for all arguments that meet its conditions; and the plain definitions that tell it. -/
import Derived.Test.YtimgfinlbhodhaaFwGd
import Derived.Test.YtimgfinlbhodhaaFwGa
import Derived.Test.YtimgfinlbhodhaaFwGf
import Derived.Test.YtimgfinlbhodhaaFwGe
import Derived.Test.YtimgfinlbhodhaaFwGc
namespace Go.Proofs.Ytimgfinlbhodhaa.Ab
open Go
set_option linter.unusedVariables false
set_option linter.unusedSimpArgs false
set_option maxHeartbeats 4000000
theorem cloneInstr_ac (l : List I4) (hc1 : l.length ≤ 1048576) : AC Try.prog 207 [.row false 4 (l.map insv)] (.row true 4 (l.map insv)) := by
  have hb1 : ((0 + l.length : Nat) : Int) ≤ 4611686018427387904 := by omega
  have hb2 : (0 + l.length) * 32 ≤ 70368744177664 := by omega
  have hb3 : (l.length : Int) ≤ 4611686018427387904 := by omega
  have hb4 : l.length * 32 ≤ 70368744177664 := by omega
  have hcpi := copyable_insv
  refine AC.of tab_ok Try.func207 rfl (Nat.le_of_ble_eq_true rfl) fun w0 S0 => ?_
  change G _ _ ⟨[(0, .row false 4 (l.map insv))], [], 8⟩
  apply G.seq
  refine G.rg tab_ok (kof_nil _) (hk := ?_)
  apply G.seq
  apply G.seq
  refine G.rgN 1 tab_ok (kof_nil _) (hk := ?_)
  refine G.opNil tab_ok rfl rfl rfl rfl rfl rfl rfl (h1 := fun hn => ?_) (h2 := ?_)
  · refine G.rgC tab_ok (kof_nil _) (hk := ?_)
    refine G.iffT (h1 := ?_)
    apply G.seq
    refine G.rg tab_ok (kof_nil _) (hk := ?_)
    have e : l = [] := by simpa using hn
    subst e
    refine G.nilRow 2 4 rfl ?_
    refine G.fin tab_ok (hr := ?_)
    rfl
  · refine G.rgC tab_ok (kof_nil _) (hk := ?_)
    refine G.iffF (h2 := ?_)
    apply G.skip
    apply G.seq
    refine G.rg tab_ok (kof_nil _) (hk := ?_)
    refine G.fin tab_ok (hr := ?_)
    rfl
def r_cloneInstr (xs0 : List A) (rr : A) : Prop := ∃ (l : List I4), (l.length ≤ 1048576) ∧ xs0 = [.row false 4 (l.map insv)] ∧ rr = .row true 4 (l.map insv)
noncomputable def q_cloneInstr : List A → Option A := kgr r_cloneInstr
theorem k_cloneInstr : KOk Try.prog (207, q_cloneInstr) := kgr_ok (enters_of Try.func207 rfl rfl) (by rintro xs0 rr ⟨l, hc1, rfl, rfl⟩; exact cloneInstr_ac l hc1)
theorem e_cloneInstr : ∀ (l : List I4), (l.length ≤ 1048576) → q_cloneInstr [.row false 4 (l.map insv)] = some (.row true 4 (l.map insv)) := by
  intro l hc1
  refine kgr_eq (fun xs0 rr r2 h h2 => ?_) ⟨l, hc1, rfl, rfl⟩
  obtain ⟨l1, _, e1, rfl⟩ := h; obtain ⟨l2, _, e2, rfl⟩ := h2
  rw [e1] at e2
  simp only [List.cons.injEq, A.int.injEq, A.bool.injEq, A.agg.injEq, A.row.injEq, A.fn.injEq, A.rp.injEq, insv_inj, iv_inj, true_and, and_true] at e2
  simp [e2]
theorem ok_copyProgram : Kn.ok Try.prog (kof [(207, q_cloneInstr)]) := kof_cons k_cloneInstr ((kof_nil _))
theorem copyProgram_ac (i : Int) (o : Int) (l : List I4) (hc1 : l.length ≤ 1048576) : AC Try.prog 181 [.agg [.int .i64 i, .int .i64 o, .row false 4 (l.map insv)]] (.agg [.int .i64 i, .int .i64 o, .row true 4 (l.map insv)]) := by
  have e_cloneInstr := e_cloneInstr
  refine AC.of tab_ok Try.func181 rfl (Nat.le_of_ble_eq_true rfl) fun w0 S0 => ?_
  change G _ _ ⟨[(0, .agg [.int .i64 i, .int .i64 o, .row false 4 (l.map insv)])], [], 8⟩
  apply G.seq
  refine G.rg tab_ok ok_copyProgram (hk := ?_)
  apply G.seq
  refine G.rg tab_ok ok_copyProgram (hk := ?_)
  apply G.seq
  refine G.rg tab_ok ok_copyProgram (hk := ?_)
  refine G.fin tab_ok (hr := ?_)
  rfl
def r_copyProgram (xs0 : List A) (rr : A) : Prop := ∃ (i : Int) (o : Int) (l : List I4), (l.length ≤ 1048576) ∧ xs0 = [.agg [.int .i64 i, .int .i64 o, .row false 4 (l.map insv)]] ∧ rr = .agg [.int .i64 i, .int .i64 o, .row true 4 (l.map insv)]
noncomputable def q_copyProgram : List A → Option A := kgr r_copyProgram
theorem k_copyProgram : KOk Try.prog (181, q_copyProgram) := kgr_ok (enters_of Try.func181 rfl rfl) (by rintro xs0 rr ⟨i, o, l, hc1, rfl, rfl⟩; exact copyProgram_ac i o l hc1)
theorem e_copyProgram : ∀ (i : Int) (o : Int) (l : List I4), (l.length ≤ 1048576) → q_copyProgram [.agg [.int .i64 i, .int .i64 o, .row false 4 (l.map insv)]] = some (.agg [.int .i64 i, .int .i64 o, .row true 4 (l.map insv)]) := by
  intro i o l hc1
  refine kgr_eq (fun xs0 rr r2 h h2 => ?_) ⟨i, o, l, hc1, rfl, rfl⟩
  obtain ⟨i1, o1, l1, _, e1, rfl⟩ := h; obtain ⟨i2, o2, l2, _, e2, rfl⟩ := h2
  rw [e1] at e2
  simp only [List.cons.injEq, A.int.injEq, A.bool.injEq, A.agg.injEq, A.row.injEq, A.fn.injEq, A.rp.injEq, insv_inj, iv_inj, true_and, and_true] at e2
  simp [e2]
end Go.Proofs.Ytimgfinlbhodhaa.Ab

namespace Go.Proofs.Ytimgfinlbhodhaa.Ab
open Go
set_option linter.unusedVariables false
set_option linter.unusedSimpArgs false
set_option maxHeartbeats 4000000
theorem ok_copyNetwork : Kn.ok Try.prog (kof [(181, q_copyProgram), (71, q_cloneInt)]) := kof_cons k_copyProgram (kof_cons k_cloneInt ((kof_nil _)))
theorem copyNetwork_ac (ps : List PG) (ks : List LK) (hc1 : netOk ps ks = true) : AC Try.prog 133 [.agg [.row false 3 (ps.map pv), .row false 5 (ks.map kv)]] (.agg [.row true 3 (ps.map opv), .row true 5 (ks.map okv)]) := by
  have e_copyProgram := e_copyProgram
  have e_cloneInt := e_cloneInt
  have hnw := netOk_w hc1
  have hp12 := hnw.pl
  have hk30 := hnw.kl
  have hsm := net_small hc1
  clear hnw
  refine AC.of tab_ok Try.func133 rfl (Nat.le_of_ble_eq_true rfl) fun w0 S0 => ?_
  change G _ _ ⟨[(0, .agg [.row false 3 (ps.map pv), .row false 5 (ks.map kv)])], [], 43⟩
  apply G.seq
  refine G.rg tab_ok ok_copyNetwork (hk := ?_)
  apply G.seq
  refine G.rg tab_ok ok_copyNetwork (hk := ?_)
  refine G.focusNil 2 0 0 3 rfl rfl rfl ?_
  simp only [withH]
  refine G.focusNil 2 0 1 5 rfl rfl rfl ?_
  simp only [withH]
  apply G.seq
  apply G.seq
  refine G.rg tab_ok ok_copyNetwork (hk := ?_)
  apply G.block
  refine G.nm [1, 2, 3, 10, 11, 12] (h := ?_)
  refine G.loopX (fun j : Nat => ⟨[(1, .ptr 0 0 0), (2, .ptr 1 0 0), (3, .ptr 2 0 0), (10, .row false 3 (ps.map pv)), (11, .int .i64 ps.length), (12, .int .i64 j)], [some (2, [[.row false 3 (ps.map pv), .row false 5 (ks.map kv)]]), some (2, [[.nils, .nils]]), some (2, [[.sl 3 0 j, .sl 4 0 0]]), some (3, (ps.take j).map opv), some (5, [])], 43⟩) (fun j => j ≤ ps.length) (fun j => ps.length - j) (0) (Nat.zero_le _) (by simp) ?_
  intro j hj J hJ
  have hw : IntKind.i64.wrap ((j : Int) + 1) = (j : Int) + 1 := wrap64 (by omega) (by omega)
  apply G.seq
  refine G.rg tab_ok ok_copyNetwork (hk := ?_)
  apply G.seq
  refine G.iff (h1 := fun h1 => ?_) (h2 := fun h1 => ?_)
  · try simp only [zz, bne_iff_ne, beq_iff_eq, bne_eq_false_iff_eq, beq_eq_false_iff_ne, ne_eq, gt_iff_lt, ge_iff_le] at h1
    apply G.skip
    apply G.seq
    apply G.block
    apply G.seq
    have hmj : min j ps.length = j := by omega
    have htk1 : List.take j ((ps.take j).map opv) = (ps.take j).map opv := List.take_of_length_le (by simp; omega)
    have htj : ps.take j ++ [ps.getD j default] = ps.take (j + 1) := take_snoc (by omega)
    have hlr : (ps.getD j default).l.length ≤ 1048576 := by have := hsm.1 j (by omega); omega
    have hq1 : ((j + 1 : Nat) : Int) ≤ 4611686018427387904 := by omega
    have hq2 : (j + 1) * 40 ≤ 70368744177664 := by omega
    refine G.rg tab_ok ok_copyNetwork (hk := ?_)
    refine G.dr mixed tab_ok ok_copyNetwork [0, 1, 2, 3, 4, 5, 6, 7] (hk := ?_)
    refine G.lastE 8 2 6 (f := opv) (l := ps.take j) (ps.getD j default) rfl rfl rfl (by decide) (by simp) (pureLL_insv _) rfl ?_
    rw [htj]
    apply G.blk
    refine G.rg tab_ok ok_copyNetwork (hk := ?_)
    refine G.nm [1, 2, 3, 10, 11, 12] (h := ?_)
    exact G.upto (hJ (j + 1) (by omega) (by omega)) (by simp)
  · try simp only [zz, bne_iff_ne, beq_iff_eq, bne_eq_false_iff_eq, beq_eq_false_iff_ne, ne_eq, gt_iff_lt, ge_iff_le] at h1
    refine G.exit rfl ?_
    apply G.seq
    apply G.seq
    refine G.rg tab_ok ok_copyNetwork (hk := ?_)
    apply G.block
    obtain rfl : j = ps.length := by omega
    rw [List.take_length]
    refine G.nm [2, 3, 25, 26, 27] (h := ?_)
    refine G.loopX (fun j : Nat => ⟨[(2, .ptr 0 0 0), (3, .ptr 1 0 0), (25, .row false 5 (ks.map kv)), (26, .int .i64 ks.length), (27, .int .i64 j)], [some (2, [[.nils, .nils]]), some (2, [[.sl 2 0 ps.length, .sl 3 0 j]]), some (3, ps.map opv), some (5, (ks.take j).map okv)], 43⟩) (fun j => j ≤ ks.length) (fun j => ks.length - j) (0) (Nat.zero_le _) (by simp) ?_
    intro j hj J hJ
    have hw : IntKind.i64.wrap ((j : Int) + 1) = (j : Int) + 1 := wrap64 (by omega) (by omega)
    apply G.seq
    refine G.rg tab_ok ok_copyNetwork (hk := ?_)
    apply G.seq
    refine G.iff (h1 := fun h2 => ?_) (h2 := fun h2 => ?_)
    · try simp only [zz, bne_iff_ne, beq_iff_eq, bne_eq_false_iff_eq, beq_eq_false_iff_ne, ne_eq, gt_iff_lt, ge_iff_le] at h2
      apply G.skip
      apply G.seq
      apply G.block
      apply G.seq
      have hmj : min j ks.length = j := by omega
      have htk1 : List.take j ((ks.take j).map okv) = (ks.take j).map okv := List.take_of_length_le (by simp; omega)
      have htj : ks.take j ++ [ks.getD j default] = ks.take (j + 1) := take_snoc (by omega)
      have hlr : (ks.getD j default).tk.length ≤ 1048576 := by have := hsm.2 j (by omega); omega
      have hq1 : ((j + 1 : Nat) : Int) ≤ 4611686018427387904 := by omega
      have hq2 : (j + 1) * 56 ≤ 70368744177664 := by omega
      refine G.rg tab_ok ok_copyNetwork (hk := ?_)
      apply G.seq
      refine G.rg tab_ok ok_copyNetwork (hk := ?_)
      refine G.rg tab_ok ok_copyNetwork (hk := ?_)
      refine G.lastE 7 4 5 (f := okv) (l := ks.take j) (ks.getD j default) rfl rfl rfl (by decide) (by simp) (pureLL_iv _) rfl ?_
      rw [htj]
      apply G.blk
      refine G.rg tab_ok ok_copyNetwork (hk := ?_)
      refine G.nm [2, 3, 25, 26, 27] (h := ?_)
      exact G.upto (hJ (j + 1) (by omega) (by omega)) (by simp)
    · try simp only [zz, bne_iff_ne, beq_iff_eq, bne_eq_false_iff_eq, beq_eq_false_iff_ne, ne_eq, gt_iff_lt, ge_iff_le] at h2
      refine G.exit rfl ?_
      apply G.seq
      refine G.rg tab_ok ok_copyNetwork (hk := ?_)
      obtain rfl : j = ks.length := by omega
      rw [List.take_length]
      refine G.fin tab_ok (hr := ?_)
      rfl
def r_copyNetwork (xs0 : List A) (rr : A) : Prop := ∃ (ps : List PG) (ks : List LK), (netOk ps ks = true) ∧ xs0 = [.agg [.row false 3 (ps.map pv), .row false 5 (ks.map kv)]] ∧ rr = .agg [.row true 3 (ps.map opv), .row true 5 (ks.map okv)]
noncomputable def q_copyNetwork : List A → Option A := kgr r_copyNetwork
theorem k_copyNetwork : KOk Try.prog (133, q_copyNetwork) := kgr_ok (enters_of Try.func133 rfl rfl) (by rintro xs0 rr ⟨ps, ks, hc1, rfl, rfl⟩; exact copyNetwork_ac ps ks hc1)
theorem e_copyNetwork : ∀ (ps : List PG) (ks : List LK), (netOk ps ks = true) → q_copyNetwork [.agg [.row false 3 (ps.map pv), .row false 5 (ks.map kv)]] = some (.agg [.row true 3 (ps.map opv), .row true 5 (ks.map okv)]) := by
  intro ps ks hc1
  refine kgr_eq (fun xs0 rr r2 h h2 => ?_) ⟨ps, ks, hc1, rfl, rfl⟩
  obtain ⟨ps1, ks1, _, e1, rfl⟩ := h; obtain ⟨ps2, ks2, _, e2, rfl⟩ := h2
  rw [e1] at e2
  simp only [List.cons.injEq, A.int.injEq, A.bool.injEq, A.agg.injEq, A.row.injEq, pv_inj, kv_inj, true_and, and_true] at e2
  obtain ⟨e3, e4⟩ := e2
  subst e3 e4
  rfl
theorem ok_checked : Kn.ok Try.prog (kof [(70, q_implIsNetwork), (133, q_copyNetwork)]) := kof_cons k_implIsNetwork (kof_cons k_copyNetwork ((kof_nil _)))
theorem checked_ac (ps : List PG) (ks : List LK) (hc1 : NW ps) (hc2 : KW ks) (hc3 : ps.length < 3518437208781) (hc4 : ks.length < 2513169434844) : AC Try.prog 112 [.agg [.row false 3 (ps.map pv), .row false 5 (ks.map kv)]] (.tup [.agg [.row true 3 ((chk ps ks).1.map opv), .row true 5 ((chk ps ks).2.1.map okv)], .bool (chk ps ks).2.2]) := by
  have e_implIsNetwork := e_implIsNetwork
  have e_copyNetwork := e_copyNetwork
  refine AC.of tab_ok Try.func112 rfl (Nat.le_of_ble_eq_true rfl) fun w0 S0 => ?_
  change G _ _ ⟨[(0, .agg [.row false 3 (ps.map pv), .row false 5 (ks.map kv)])], [], 10⟩
  apply G.seq
  refine G.rg tab_ok ok_checked (hk := ?_)
  apply G.seq
  apply G.seq
  refine G.rg tab_ok ok_checked (hk := ?_)
  refine G.iff (h1 := fun h1 => ?_) (h2 := fun h1 => ?_)
  · try simp only [zz, bne_iff_ne, beq_iff_eq, bne_eq_false_iff_eq, beq_eq_false_iff_ne, ne_eq, gt_iff_lt, ge_iff_le] at h1
    apply G.seq
    refine G.rg tab_ok ok_checked (hk := ?_)
    refine G.focusNil 1 0 0 3 rfl rfl rfl ?_
    simp only [withH]
    refine G.focusNil 1 0 1 5 rfl rfl rfl ?_
    simp only [withH]
    refine G.fin tab_ok (hr := ?_)
    simp [oneOrTup, chk, h1]
  · try simp only [zz, bne_iff_ne, beq_iff_eq, bne_eq_false_iff_eq, beq_eq_false_iff_ne, ne_eq, gt_iff_lt, ge_iff_le] at h1
    apply G.skip
    apply G.seq
    have hnk : netOk ps ks = true := h1
    refine G.rg tab_ok ok_checked (hk := ?_)
    refine G.fin tab_ok (hr := ?_)
    simp only [List.take_of_length_le, List.length_map, Nat.le_refl, oneOrTup, chk, h1, if_true]
def r_checked (xs0 : List A) (rr : A) : Prop := ∃ (ps : List PG) (ks : List LK), (NW ps) ∧ (KW ks) ∧ (ps.length < 3518437208781) ∧ (ks.length < 2513169434844) ∧ xs0 = [.agg [.row false 3 (ps.map pv), .row false 5 (ks.map kv)]] ∧ rr = .tup [.agg [.row true 3 ((chk ps ks).1.map opv), .row true 5 ((chk ps ks).2.1.map okv)], .bool (chk ps ks).2.2]
noncomputable def q_checked : List A → Option A := kgr r_checked
theorem k_checked : KOk Try.prog (112, q_checked) := kgr_ok (enters_of Try.func112 rfl rfl) (by rintro xs0 rr ⟨ps, ks, hc1, hc2, hc3, hc4, rfl, rfl⟩; exact checked_ac ps ks hc1 hc2 hc3 hc4)
theorem e_checked : ∀ (ps : List PG) (ks : List LK), (NW ps) → (KW ks) → (ps.length < 3518437208781) → (ks.length < 2513169434844) → q_checked [.agg [.row false 3 (ps.map pv), .row false 5 (ks.map kv)]] = some (.tup [.agg [.row true 3 ((chk ps ks).1.map opv), .row true 5 ((chk ps ks).2.1.map okv)], .bool (chk ps ks).2.2]) := by
  intro ps ks hc1 hc2 hc3 hc4
  refine kgr_eq (fun xs0 rr r2 h h2 => ?_) ⟨ps, ks, hc1, hc2, hc3, hc4, rfl, rfl⟩
  obtain ⟨ps1, ks1, _, _, _, _, e1, rfl⟩ := h; obtain ⟨ps2, ks2, _, _, _, _, e2, rfl⟩ := h2
  rw [e1] at e2
  simp only [List.cons.injEq, A.int.injEq, A.bool.injEq, A.agg.injEq, A.row.injEq, pv_inj, kv_inj, true_and, and_true] at e2
  obtain ⟨e3, e4⟩ := e2
  subst e3 e4
  rfl
end Go.Proofs.Ytimgfinlbhodhaa.Ab

namespace Go.Proofs.Ytimgfinlbhodhaa.Ab
open Go
set_option linter.unusedVariables false
set_option linter.unusedSimpArgs false
set_option maxHeartbeats 4000000
end Go.Proofs.Ytimgfinlbhodhaa.Ab

namespace Go.Proofs.Ytimgfinlbhodhaa.Ab
open Go
set_option linter.unusedVariables false
set_option linter.unusedSimpArgs false
set_option maxHeartbeats 4000000
theorem eqSl_ac (a : List Int) (b : List Int) (hc1 : a.length < 17592186044416) (hc2 : b.length < 17592186044416) : AC Try.prog 142 [.row false 1 (a.map iv), .row false 1 (b.map iv)] (.bool (decide (a = b))) := by
  refine AC.of tab_ok Try.func142 rfl (Nat.le_of_ble_eq_true rfl) fun w0 S0 => ?_
  change G _ _ ⟨[(0, .row false 1 (a.map iv)), (1, .row false 1 (b.map iv))], [], 26⟩
  apply G.seq
  refine G.rg tab_ok (kof_nil _) (hk := ?_)
  apply G.seq
  apply G.seq
  refine G.rg tab_ok (kof_nil _) (hk := ?_)
  refine G.iff (h1 := fun h1 => ?_) (h2 := fun h1 => ?_)
  · try simp only [zz, bne_iff_ne, beq_iff_eq, bne_eq_false_iff_eq, beq_eq_false_iff_ne, ne_eq, gt_iff_lt, ge_iff_le] at h1
    apply G.seq
    refine G.rg tab_ok (kof_nil _) (hk := ?_)
    refine G.fin tab_ok (hr := ?_)
    simp only [oneOrTup]
    congr 1
    symm
    rw [decide_eq_false_iff_not]
    intro e
    subst e
    exact h1 rfl
  · try simp only [zz, bne_iff_ne, beq_iff_eq, bne_eq_false_iff_eq, beq_eq_false_iff_ne, ne_eq, gt_iff_lt, ge_iff_le] at h1
    apply G.skip
    apply G.seq
    apply G.seq
    have hle1 : a.length ≤ b.length := by omega
    have hle2 : b.length ≤ a.length := by omega
    clear h1
    refine G.rg tab_ok (kof_nil _) (hk := ?_)
    apply G.block
    refine G.cn [0, 1, 12, 13] [] (h := ?_)
    refine G.loopX (fun j : Nat => ⟨[(0, .row false 1 (a.map iv)), (1, .row false 1 (b.map iv)), (12, .int .i64 a.length), (13, .int .i64 j)], [], 26⟩) (fun j => j ≤ a.length ∧ ∀ k < j, a.getD k default = b.getD k default) (fun j => a.length - j) (0) (⟨Nat.zero_le _, by omega⟩) (by simp) ?_
    intro j hj J hJ
    obtain ⟨hj, hall⟩ := hj
    have hw : IntKind.i64.wrap ((j : Int) + 1) = (j : Int) + 1 := wrap64 (by omega) (by omega)
    apply G.seq
    refine G.rg tab_ok (kof_nil _) (hk := ?_)
    apply G.seq
    refine G.iff (h1 := fun h2 => ?_) (h2 := fun h2 => ?_)
    · try simp only [zz, bne_iff_ne, beq_iff_eq, bne_eq_false_iff_eq, beq_eq_false_iff_ne, ne_eq, gt_iff_lt, ge_iff_le] at h2
      apply G.skip
      apply G.seq
      apply G.block
      apply G.seq
      refine G.rg tab_ok (kof_nil _) (hk := ?_)
      apply G.seq
      have hjb : j < b.length := by omega
      have hja : j < a.length := by omega
      refine G.dr mixed tab_ok (kof_nil _) [0, 1, 2, 3, 4, 5, 6, 7, 8] (hk := ?_)
      refine G.fg [0, 1, 12, 13, 24] (hk := ?_)
      refine G.iff (h1 := fun h3 => ?_) (h2 := fun h3 => ?_)
      · try simp only [zz, bne_iff_ne, beq_iff_eq, bne_eq_false_iff_eq, beq_eq_false_iff_ne, ne_eq, gt_iff_lt, ge_iff_le] at h3
        apply G.seq
        refine G.rg tab_ok (kof_nil _) (hk := ?_)
        refine G.fin tab_ok (hr := ?_)
        simp only [oneOrTup]
        congr 1
        symm
        rw [decide_eq_false_iff_not]
        intro e
        subst e
        exact h3 rfl
      · try simp only [zz, bne_iff_ne, beq_iff_eq, bne_eq_false_iff_eq, beq_eq_false_iff_ne, ne_eq, gt_iff_lt, ge_iff_le] at h3
        apply G.skip
        apply G.blk
        refine G.rg tab_ok (kof_nil _) (hk := ?_)
        refine G.cn [0, 1, 12, 13] [] (h := ?_)
        exact G.upto (hJ (j + 1) ⟨by omega, geq_upto hall h3⟩ (by omega)) (by simp)
    · try simp only [zz, bne_iff_ne, beq_iff_eq, bne_eq_false_iff_eq, beq_eq_false_iff_ne, ne_eq, gt_iff_lt, ge_iff_le] at h2
      refine G.exit rfl ?_
      apply G.seq
      refine G.rg tab_ok (kof_nil _) (hk := ?_)
      refine G.fin tab_ok (hr := ?_)
      simp only [oneOrTup]
      congr 1
      symm
      rw [decide_eq_true_eq]
      exact geq_all (by omega) (fun k hk => hall k (by omega))
def r_eqSl (xs0 : List A) (rr : A) : Prop := ∃ (a : List Int) (b : List Int), (a.length < 17592186044416) ∧ (b.length < 17592186044416) ∧ xs0 = [.row false 1 (a.map iv), .row false 1 (b.map iv)] ∧ rr = .bool (decide (a = b))
noncomputable def q_eqSl : List A → Option A := kgr r_eqSl
theorem k_eqSl : KOk Try.prog (142, q_eqSl) := kgr_ok (enters_of Try.func142 rfl rfl) (by rintro xs0 rr ⟨a, b, hc1, hc2, rfl, rfl⟩; exact eqSl_ac a b hc1 hc2)
theorem e_eqSl : ∀ (a : List Int) (b : List Int), (a.length < 17592186044416) → (b.length < 17592186044416) → q_eqSl [.row false 1 (a.map iv), .row false 1 (b.map iv)] = some (.bool (decide (a = b))) := by
  intro a b hc1 hc2
  refine kgr_eq (fun xs0 rr r2 h h2 => ?_) ⟨a, b, hc1, hc2, rfl, rfl⟩
  obtain ⟨a1, b1, _, _, e1, rfl⟩ := h; obtain ⟨a2, b2, _, _, e2, rfl⟩ := h2
  rw [e1] at e2
  simp only [List.cons.injEq, A.int.injEq, A.bool.injEq, A.agg.injEq, A.row.injEq, A.fn.injEq, A.rp.injEq, insv_inj, iv_inj, true_and, and_true] at e2
  simp [e2]
theorem l1Begins_ac (a : List Int) (b : List Int) (hc1 : a.length < 17592186044416) (hc2 : b.length < 17592186044416) : AC Try.prog 76 [.row false 1 (a.map iv), .row false 1 (b.map iv)] (.bool (begB a b)) := by
  refine AC.of tab_ok Try.func76 rfl (Nat.le_of_ble_eq_true rfl) fun w0 S0 => ?_
  change G _ _ ⟨[(0, .row false 1 (a.map iv)), (1, .row false 1 (b.map iv))], [], 26⟩
  apply G.seq
  refine G.rg tab_ok (kof_nil _) (hk := ?_)
  apply G.seq
  apply G.seq
  refine G.rg tab_ok (kof_nil _) (hk := ?_)
  refine G.iff (h1 := fun h1 => ?_) (h2 := fun h1 => ?_)
  · try simp only [zz, bne_iff_ne, beq_iff_eq, bne_eq_false_iff_eq, beq_eq_false_iff_ne, ne_eq, gt_iff_lt, ge_iff_le] at h1
    apply G.seq
    refine G.rg tab_ok (kof_nil _) (hk := ?_)
    refine G.fin tab_ok (hr := ?_)
    simp only [oneOrTup]
    congr 1
    exact (begB_long (by omega)).symm
  · try simp only [zz, bne_iff_ne, beq_iff_eq, bne_eq_false_iff_eq, beq_eq_false_iff_ne, ne_eq, gt_iff_lt, ge_iff_le] at h1
    apply G.skip
    apply G.seq
    apply G.seq
    refine G.rg tab_ok (kof_nil _) (hk := ?_)
    apply G.block
    have hlab : a.length ≤ b.length := by omega
    refine G.cn [1, 12, 13, 14] [] (h := ?_)
    refine G.loopX (fun j : Nat => ⟨[(1, .row false 1 (b.map iv)), (12, .row false 1 (a.map iv)), (13, .int .i64 a.length), (14, .int .i64 j)], [], 26⟩) (fun j => j ≤ a.length ∧ ∀ k < j, b.getD k default = a.getD k default) (fun j => a.length - j) (0) (⟨Nat.zero_le _, by omega⟩) (by simp) ?_
    intro j hj J hJ
    obtain ⟨hj, hall⟩ := hj
    have hw : IntKind.i64.wrap ((j : Int) + 1) = (j : Int) + 1 := wrap64 (by omega) (by omega)
    apply G.seq
    refine G.rg tab_ok (kof_nil _) (hk := ?_)
    apply G.seq
    refine G.iff (h1 := fun h2 => ?_) (h2 := fun h2 => ?_)
    · try simp only [zz, bne_iff_ne, beq_iff_eq, bne_eq_false_iff_eq, beq_eq_false_iff_ne, ne_eq, gt_iff_lt, ge_iff_le] at h2
      apply G.skip
      apply G.seq
      apply G.block
      apply G.seq
      refine G.rg tab_ok (kof_nil _) (hk := ?_)
      apply G.seq
      have hjb : j < b.length := by omega
      refine G.rg tab_ok (kof_nil _) (hk := ?_)
      refine G.fg [1, 12, 13, 14, 24] (hk := ?_)
      refine G.iff (h1 := fun h3 => ?_) (h2 := fun h3 => ?_)
      · try simp only [zz, bne_iff_ne, beq_iff_eq, bne_eq_false_iff_eq, beq_eq_false_iff_ne, ne_eq, gt_iff_lt, ge_iff_le] at h3
        apply G.seq
        refine G.rg tab_ok (kof_nil _) (hk := ?_)
        refine G.fin tab_ok (hr := ?_)
        simp only [oneOrTup]
        congr 1
        exact (begB_no (by omega) h3).symm
      · try simp only [zz, bne_iff_ne, beq_iff_eq, bne_eq_false_iff_eq, beq_eq_false_iff_ne, ne_eq, gt_iff_lt, ge_iff_le] at h3
        apply G.skip
        apply G.blk
        refine G.rg tab_ok (kof_nil _) (hk := ?_)
        refine G.cn [1, 12, 13, 14] [] (h := ?_)
        exact G.upto (hJ (j + 1) ⟨by omega, up_step hall h3⟩ (by omega)) (by simp)
    · try simp only [zz, bne_iff_ne, beq_iff_eq, bne_eq_false_iff_eq, beq_eq_false_iff_ne, ne_eq, gt_iff_lt, ge_iff_le] at h2
      refine G.exit rfl ?_
      apply G.seq
      refine G.rg tab_ok (kof_nil _) (hk := ?_)
      refine G.fin tab_ok (hr := ?_)
      simp only [oneOrTup]
      congr 1
      exact (begB_yes hlab (fun k hk => hall k (by omega))).symm
def r_l1Begins (xs0 : List A) (rr : A) : Prop := ∃ (a : List Int) (b : List Int), (a.length < 17592186044416) ∧ (b.length < 17592186044416) ∧ xs0 = [.row false 1 (a.map iv), .row false 1 (b.map iv)] ∧ rr = .bool (begB a b)
noncomputable def q_l1Begins : List A → Option A := kgr r_l1Begins
theorem k_l1Begins : KOk Try.prog (76, q_l1Begins) := kgr_ok (enters_of Try.func76 rfl rfl) (by rintro xs0 rr ⟨a, b, hc1, hc2, rfl, rfl⟩; exact l1Begins_ac a b hc1 hc2)
theorem e_l1Begins : ∀ (a : List Int) (b : List Int), (a.length < 17592186044416) → (b.length < 17592186044416) → q_l1Begins [.row false 1 (a.map iv), .row false 1 (b.map iv)] = some (.bool (begB a b)) := by
  intro a b hc1 hc2
  refine kgr_eq (fun xs0 rr r2 h h2 => ?_) ⟨a, b, hc1, hc2, rfl, rfl⟩
  obtain ⟨a1, b1, _, _, e1, rfl⟩ := h; obtain ⟨a2, b2, _, _, e2, rfl⟩ := h2
  rw [e1] at e2
  simp only [List.cons.injEq, A.int.injEq, A.bool.injEq, A.agg.injEq, A.row.injEq, A.fn.injEq, A.rp.injEq, insv_inj, iv_inj, true_and, and_true] at e2
  simp [e2]
end Go.Proofs.Ytimgfinlbhodhaa.Ab

namespace Go.Proofs.Ytimgfinlbhodhaa.Ab
open Go
set_option linter.unusedVariables false
set_option linter.unusedSimpArgs false
set_option maxHeartbeats 4000000
theorem ok_l4Tokens : Kn.ok Try.prog (kof [(154, q_l1Copy)]) := kof_cons k_l1Copy ((kof_nil _))
theorem l4Tokens_ac (ps : List PG) (ks : List LK) (hc1 : netOk ps ks = true) : AC Try.prog 89 [.agg [.row false 3 (ps.map pv), .row false 5 (ks.map kv)]] (.row true 1 ((tkL ks).map ovL)) := by
  have e_l1Copy := e_l1Copy
  have hivl := ivL_eq
  have hro := roLL_ovL
  have hpov := pureLL_ovL
  have hnov := noLoanLL_ovL
  have hsm := net_small hc1
  have hp12 := (netOk_w hc1).pl
  have hk30 := (netOk_w hc1).kl
  refine AC.of tab_ok Try.func89 rfl (Nat.le_of_ble_eq_true rfl) fun w0 S0 => ?_
  change G _ _ ⟨[(0, .agg [.row false 3 (ps.map pv), .row false 5 (ks.map kv)])], [], 22⟩
  apply G.seq
  refine G.rg tab_ok ok_l4Tokens (hk := ?_)
  apply G.seq
  refine G.rg tab_ok ok_l4Tokens (hk := ?_)
  apply G.seq
  apply G.seq
  refine G.rg tab_ok ok_l4Tokens (hk := ?_)
  apply G.block
  refine G.nm [3, 8, 9, 10] (h := ?_)
  refine G.loopX (fun j : Nat => ⟨[(3, .sl 0 0 j), (8, .row false 5 (ks.map kv)), (9, .int .i64 ks.length), (10, .int .i64 j)], [some (1, ((tkL ks).take j).map ovL)], 22⟩) (fun j => j ≤ ks.length) (fun j => ks.length - j) (0) (Nat.zero_le _) (by simp) ?_
  intro j hj J hJ
  have hw : IntKind.i64.wrap ((j : Int) + 1) = (j : Int) + 1 := wrap64 (by omega) (by omega)
  apply G.seq
  refine G.rg tab_ok ok_l4Tokens (hk := ?_)
  apply G.seq
  refine G.iff (h1 := fun h1 => ?_) (h2 := fun h1 => ?_)
  · try simp only [zz, bne_iff_ne, beq_iff_eq, bne_eq_false_iff_eq, beq_eq_false_iff_ne, ne_eq, gt_iff_lt, ge_iff_le] at h1
    apply G.skip
    apply G.seq
    apply G.block
    apply G.seq
    have hmj : min j (tkL ks).length = j := by rw [tkL_len]; omega
    have htk1 : List.take j (((tkL ks).take j).map ovL) = ((tkL ks).take j).map ovL := List.take_of_length_le (by simp; omega)
    have htj := tkL_snoc (ks := ks) (j := j) (by omega)
    have hlr : (ks.getD j default).tk.length ≤ 1048576 := by have := hsm.2 j (by omega); omega
    have hq1 : ((j + 1 : Nat) : Int) ≤ 4611686018427387904 := by omega
    have hq2 : (j + 1) * 24 ≤ 70368744177664 := by omega
    refine G.rg tab_ok ok_l4Tokens (hk := ?_)
    refine G.rg tab_ok ok_l4Tokens (hk := ?_)
    refine G.lastE 4 0 2 (f := ovL) (l := (tkL ks).take j) ((ks.getD j default).tk) rfl rfl rfl (by decide) (by simp) (pureLL_iv _) rfl ?_
    rw [htj]
    apply G.blk
    refine G.rg tab_ok ok_l4Tokens (hk := ?_)
    refine G.nm [3, 8, 9, 10] (h := ?_)
    exact G.upto (hJ (j + 1) (by omega) (by omega)) (by simp)
  · try simp only [zz, bne_iff_ne, beq_iff_eq, bne_eq_false_iff_eq, beq_eq_false_iff_ne, ne_eq, gt_iff_lt, ge_iff_le] at h1
    refine G.exit rfl ?_
    apply G.seq
    refine G.rg tab_ok ok_l4Tokens (hk := ?_)
    obtain rfl : j = ks.length := by omega
    have hft : List.take ks.length (tkL ks) = tkL ks := List.take_of_length_le (by rw [tkL_len]; exact Nat.le_refl _)
    have hft2 : List.take ks.length ((tkL ks).map ovL) = (tkL ks).map ovL := List.take_of_length_le (by simp [tkL_len])
    rw [hft]
    have hl1 : ks.length ≤ (tkL ks).length := by rw [tkL_len]; exact Nat.le_refl _
    refine G.fin tab_ok (hr := ?_)
    rfl
def r_l4Tokens (xs0 : List A) (rr : A) : Prop := ∃ (ps : List PG) (ks : List LK), (netOk ps ks = true) ∧ xs0 = [.agg [.row false 3 (ps.map pv), .row false 5 (ks.map kv)]] ∧ rr = .row true 1 ((tkL ks).map ovL)
noncomputable def q_l4Tokens : List A → Option A := kgr r_l4Tokens
theorem k_l4Tokens : KOk Try.prog (89, q_l4Tokens) := kgr_ok (enters_of Try.func89 rfl rfl) (by rintro xs0 rr ⟨ps, ks, hc1, rfl, rfl⟩; exact l4Tokens_ac ps ks hc1)
theorem e_l4Tokens : ∀ (ps : List PG) (ks : List LK), (netOk ps ks = true) → q_l4Tokens [.agg [.row false 3 (ps.map pv), .row false 5 (ks.map kv)]] = some (.row true 1 ((tkL ks).map ovL)) := by
  intro ps ks hc1
  refine kgr_eq (fun xs0 rr r2 h h2 => ?_) ⟨ps, ks, hc1, rfl, rfl⟩
  obtain ⟨ps1, ks1, _, e1, rfl⟩ := h; obtain ⟨ps2, ks2, _, e2, rfl⟩ := h2
  rw [e1] at e2
  simp only [List.cons.injEq, A.int.injEq, A.bool.injEq, A.agg.injEq, A.row.injEq, pv_inj, kv_inj, true_and, and_true] at e2
  obtain ⟨e3, e4⟩ := e2
  subst e3 e4
  rfl
end Go.Proofs.Ytimgfinlbhodhaa.Ab

namespace Go.Proofs.Ytimgfinlbhodhaa.Ab
open Go
set_option linter.unusedVariables false
set_option linter.unusedSimpArgs false
set_option maxHeartbeats 4000000
-- not in this seat: l3Has
end Go.Proofs.Ytimgfinlbhodhaa.Ab
