/- Walks of functions. -/
import Derived.Test.YtimgfinlbhodhaaAbPerm2
import Derived.Test.YtimgfinlbhodhaaFwGg
namespace Go.Proofs.Ytimgfinlbhodhaa.Ab
open Go
set_option linter.unusedVariables false
set_option linter.unusedSimpArgs false
set_option maxHeartbeats 4000000
theorem ok_l3Link : Kn.ok Try.prog (kof [(154, q_l1Copy)]) := kof_cons k_l1Copy ((kof_nil _))
theorem l3Link_ac (fr : Int) (ou : Int) (to : Int) (ip : Int) (tk : List Int) (hc1 : tk.length ≤ 1048576) : AC Try.prog 107 [.agg [.int .i64 fr, .int .i64 ou, .int .i64 to, .int .i64 ip, .row false 1 (tk.map iv)]] (.agg [.int .i64 fr, .int .i64 ou, .int .i64 to, .int .i64 ip, .row true 1 (tk.map iv)]) := by
 have e_l1Copy := e_l1Copy
 refine AC.of tab_ok Try.func107 rfl (Nat.le_of_ble_eq_true rfl) fun w0 S0 => ?_
 change G _ _ ⟨[(0, .agg [.int .i64 fr, .int .i64 ou, .int .i64 to, .int .i64 ip, .row false 1 (tk.map iv)])], [], 15⟩
 apply G.seq
 refine G.rg tab_ok ok_l3Link (hk := ?_)
 apply G.seq
 refine G.dr mixed tab_ok ok_l3Link [0, 1, 2, 3, 4, 5, 6, 7, 8, 9, 10, 11, 12] (hk := ?_)
 refine G.fin tab_ok (hr := ?_)
 rfl
def r_l3Link (xs0 : List A) (rr : A) : Prop := ∃ (fr : Int) (ou : Int) (to : Int) (ip : Int) (tk : List Int), (tk.length ≤ 1048576) ∧ xs0 = [.agg [.int .i64 fr, .int .i64 ou, .int .i64 to, .int .i64 ip, .row false 1 (tk.map iv)]] ∧ rr = .agg [.int .i64 fr, .int .i64 ou, .int .i64 to, .int .i64 ip, .row true 1 (tk.map iv)]
noncomputable def q_l3Link : List A → Option A := kgr r_l3Link
theorem k_l3Link : KOk Try.prog (107, q_l3Link) := kgr_ok (enters_of Try.func107 rfl rfl) (by rintro xs0 rr ⟨fr, ou, to, ip, tk, hc1, rfl, rfl⟩; exact l3Link_ac fr ou to ip tk hc1)
theorem e_l3Link : ∀ (fr : Int) (ou : Int) (to : Int) (ip : Int) (tk : List Int), (tk.length ≤ 1048576) → q_l3Link [.agg [.int .i64 fr, .int .i64 ou, .int .i64 to, .int .i64 ip, .row false 1 (tk.map iv)]] = some (.agg [.int .i64 fr, .int .i64 ou, .int .i64 to, .int .i64 ip, .row true 1 (tk.map iv)]) := by
 intro fr ou to ip tk hc1
 refine kgr_eq (fun xs0 rr r2 h h2 => ?_) ⟨fr, ou, to, ip, tk, hc1, rfl, rfl⟩
 obtain ⟨fr1, ou1, to1, ip1, tk1, _, e1, rfl⟩ := h; obtain ⟨fr2, ou2, to2, ip2, tk2, _, e2, rfl⟩ := h2
 rw [e1] at e2
 simp only [List.cons.injEq, A.int.injEq, A.bool.injEq, A.agg.injEq, A.row.injEq, A.fn.injEq, A.rp.injEq, insv_inj, iv_inj, true_and, and_true] at e2
 simp [e2]
theorem ok_l3Copy : Kn.ok Try.prog (kof [(106, q_l3Program), (107, q_l3Link)]) := kof_cons k_l3Program (kof_cons k_l3Link ((kof_nil _)))
theorem l3Copy_ac (ps : List PG) (ks : List LK) (hc1 : netOk ps ks = true) : AC Try.prog 105 [.agg [.row false 3 (ps.map pv), .row false 5 (ks.map kv)]] (.agg [.row true 3 (ps.map opv), .row true 5 (ks.map okv)]) := by
  have e_l3Program := e_l3Program
  have e_l3Link := e_l3Link
  have hnk := hc1
  have hnw := netOk_w hnk
  have hp12 := hnw.pl
  have hk30 := hnw.kl
  have hsm := net_small hnk
  clear hnw
  refine AC.of tab_ok Try.func105 rfl (Nat.le_of_ble_eq_true rfl) fun w0 S0 => ?_
  change G _ _ ⟨[(0, .agg [.row false 3 (ps.map pv), .row false 5 (ks.map kv)])], [], 40⟩
  apply G.seq
  refine G.rg tab_ok ok_l3Copy (hk := ?_)
  apply G.seq
  refine G.rg tab_ok ok_l3Copy (hk := ?_)
  refine G.focusNil 2 0 0 3 rfl rfl rfl ?_
  simp only [withH]
  refine G.focusNil 2 0 1 5 rfl rfl rfl ?_
  simp only [withH]
  apply G.seq
  apply G.seq
  refine G.rg tab_ok ok_l3Copy (hk := ?_)
  apply G.block
  refine G.nm [1, 2, 3, 10, 11, 12] (h := ?_)
  refine G.loopX (fun j : Nat => ⟨[(1, .ptr 0 0 0), (2, .ptr 1 0 0), (3, .ptr 2 0 0), (10, .row false 3 (ps.map pv)), (11, .int .i64 ps.length), (12, .int .i64 j)], [some (2, [[.row false 3 (ps.map pv), .row false 5 (ks.map kv)]]), some (2, [[.nils, .nils]]), some (2, [[.sl 3 0 j, .sl 4 0 0]]), some (3, (ps.take j).map opv), some (5, [])], 40⟩) (fun j => j ≤ ps.length) (fun j => ps.length - j) (0) (Nat.zero_le _) (by simp) ?_
  intro j hj J hJ
  have hw : IntKind.i64.wrap ((j : Int) + 1) = (j : Int) + 1 := wrap64 (by omega) (by omega)
  apply G.seq
  refine G.rg tab_ok ok_l3Copy (hk := ?_)
  apply G.seq
  refine G.iff (h1 := fun h1 => ?_) (h2 := fun h1 => ?_)
  · try simp only [zqz] at h1
    apply G.skip
    apply G.seq
    apply G.block
    apply G.seq
    have hmj : min j ps.length = j := by omega
    have htk1 : List.take j ((ps.take j).map opv) = (ps.take j).map opv := List.take_of_length_le (by simp; omega)
    have htj : ps.take j ++ [ps.getD j default] = ps.take (j + 1) := take_snoc (by omega)
    have hlr : (ps.getD j default).l.length ≤ 1048576 := by have := hsm.1 j (by omega); omega
    have hq1 : ((j + 1 : Nat) : Int) ≤ 4611686018427387904 := by omega
    have hq2 : (j + 1) * 40 ≤ 70368744177664 := by omega
    refine G.rg tab_ok ok_l3Copy (hk := ?_)
    refine G.dr mixed tab_ok ok_l3Copy [0, 1, 2, 3, 4, 5, 6, 7] (hk := ?_)
    first
    | (refine G.lastE 3 2 5 (f := opv) (l := ps.take j) (ps.getD j default) rfl rfl rfl (by decide) (by simp) (pureLL_insv _) rfl ?_
       rw [htj])
    | (refine G.lastE 8 2 6 (f := opv) (l := ps.take j) (ps.getD j default) rfl rfl rfl (by decide) (by simp) (pureLL_insv _) rfl ?_
       rw [htj])
    apply G.blk
    refine G.rg tab_ok ok_l3Copy (hk := ?_)
    refine G.nm [1, 2, 3, 10, 11, 12] (h := ?_)
    exact G.upto (hJ (j + 1) (by omega) (by omega)) (by simp)
  · try simp only [zqz] at h1
    refine G.exit rfl ?_
    apply G.seq
    apply G.seq
    refine G.rg tab_ok ok_l3Copy (hk := ?_)
    apply G.block
    obtain rfl : j = ps.length := by omega
    rw [List.take_length]
    refine G.nm [2, 3, 25, 26, 27] (h := ?_)
    refine G.loopX (fun j : Nat => ⟨[(2, .ptr 0 0 0), (3, .ptr 1 0 0), (25, .row false 5 (ks.map kv)), (26, .int .i64 ks.length), (27, .int .i64 j)], [some (2, [[.nils, .nils]]), some (2, [[.sl 2 0 ps.length, .sl 3 0 j]]), some (3, ps.map opv), some (5, (ks.take j).map okv)], 40⟩) (fun j => j ≤ ks.length) (fun j => ks.length - j) (0) (Nat.zero_le _) (by simp) ?_
    intro j hj J hJ
    have hw : IntKind.i64.wrap ((j : Int) + 1) = (j : Int) + 1 := wrap64 (by omega) (by omega)
    apply G.seq
    refine G.rg tab_ok ok_l3Copy (hk := ?_)
    apply G.seq
    refine G.iff (h1 := fun h2 => ?_) (h2 := fun h2 => ?_)
    · try simp only [zqz] at h2
      apply G.skip
      apply G.seq
      apply G.block
      apply G.seq
      have hmj : min j ks.length = j := by omega
      have htk1 : List.take j ((ks.take j).map okv) = (ks.take j).map okv := List.take_of_length_le (by simp; omega)
      have htj : ks.take j ++ [ks.getD j default] = ks.take (j + 1) := take_snoc (by omega)
      have hlr : (ks.getD j default).tk.length ≤ 1048576 := by have := hsm.2 j (by omega); omega
      have hq1 : ((j + 1 : Nat) : Int) ≤ 4611686018427387904 := by omega
      have hq2 : (j + 1) * 56 ≤ 70368744177664 := by omega
      refine G.rg tab_ok ok_l3Copy (hk := ?_)
      refine G.dr mixed tab_ok ok_l3Copy [0, 1, 2, 3, 4, 5, 6, 7] (hk := ?_)
      first
      | (refine G.lastE 4 4 5 (f := okv) (l := ks.take j) (ks.getD j default) rfl rfl rfl (by decide) (by simp) (pureLL_iv _) rfl ?_
         rw [htj])
      | (refine G.lastE 8 4 6 (f := okv) (l := ks.take j) (ks.getD j default) rfl rfl rfl (by decide) (by simp) (pureLL_iv _) rfl ?_
         rw [htj])
      | (refine G.lastE 7 4 5 (f := okv) (l := ks.take j) (ks.getD j default) rfl rfl rfl (by decide) (by simp) (pureLL_iv _) rfl ?_
         rw [htj])
      apply G.blk
      refine G.rg tab_ok ok_l3Copy (hk := ?_)
      refine G.nm [2, 3, 25, 26, 27] (h := ?_)
      exact G.upto (hJ (j + 1) (by omega) (by omega)) (by simp)
    · try simp only [zqz] at h2
      refine G.exit rfl ?_
      apply G.seq
      refine G.rg tab_ok ok_l3Copy (hk := ?_)
      obtain rfl : j = ks.length := by omega
      rw [List.take_length]
      refine G.fin tab_ok (hr := ?_)
      rfl
def r_l3Copy (xs0 : List A) (rr : A) : Prop := ∃ (ps : List PG) (ks : List LK), (netOk ps ks = true) ∧ xs0 = [.agg [.row false 3 (ps.map pv), .row false 5 (ks.map kv)]] ∧ rr = .agg [.row true 3 (ps.map opv), .row true 5 (ks.map okv)]
noncomputable def q_l3Copy : List A → Option A := kgr r_l3Copy
theorem k_l3Copy : KOk Try.prog (105, q_l3Copy) := kgr_ok (enters_of Try.func105 rfl rfl) (by rintro xs0 rr ⟨ps, ks, hc1, rfl, rfl⟩; exact l3Copy_ac ps ks hc1)
theorem e_l3Copy : ∀ (ps : List PG) (ks : List LK), (netOk ps ks = true) → q_l3Copy [.agg [.row false 3 (ps.map pv), .row false 5 (ks.map kv)]] = some (.agg [.row true 3 (ps.map opv), .row true 5 (ks.map okv)]) := by
 intro ps ks hc1
 refine kgr_eq (fun xs0 rr r2 h h2 => ?_) ⟨ps, ks, hc1, rfl, rfl⟩
 obtain ⟨ps1, ks1, _, e1, rfl⟩ := h; obtain ⟨ps2, ks2, _, e2, rfl⟩ := h2
 rw [e1] at e2
 simp only [List.cons.injEq, A.int.injEq, A.bool.injEq, A.agg.injEq, A.row.injEq, pv_inj, kv_inj, true_and, and_true] at e2
 obtain ⟨e3, e4⟩ := e2
 subst e3 e4
 rfl
end Go.Proofs.Ytimgfinlbhodhaa.Ab
