/- Walks of functions of the program: what each answers, for all arguments that meet its conditions. -/
import Derived.Test.YtahcojaklooliaaAbReach2
import Derived.Test.YtahcojaklooliaaAbWA
import Derived.Test.YtahcojaklooliaaFwGg
import Derived.Test.YtahcojaklooliaaFwGe
import Derived.Test.YtahcojaklooliaaFwB
import Derived.Test.YtahcojaklooliaaFwGa
namespace Go.Proofs.Ytahcojaklooliaa.Ab
open Go
set_option linter.unusedVariables false
set_option linter.unusedSimpArgs false
set_option maxHeartbeats 4000000
theorem l3Reached_ac (ps : List PG) (ks : List LK) (p : Int) (hc1 : netOk ps ks = true) : AC Try.prog 70 [.agg [.row false 3 (ps.map pv), .row false 5 (ks.map kv)], .int .i64 p] (.row true 1 ((mN p ks ps.length ps.length).map gbv)) := by
  have hnk := hc1
  have hft : (false == true) = false := rfl
  have htf : (true == false) = false := rfl
  have hgb := gbv_eq
  have hpg := pureLL_gbv
  have hnw := netOk_w hnk
  have hp12 := hnw.pl
  have hk30 := hnw.kl
  have hrg := rng_of hnk
  have hb1 : (ps.length : Int) ≤ 4611686018427387904 := by omega
  have hb3 : 1 * (ps.length : Int) ≤ 140737488355328 := by omega
  have hrepb : ∀ n, List.replicate n [A.bool false] = (List.replicate n false).map gbv := fun n => by simp [gbv]
  refine AC.of tab_ok Try.func70 rfl (Nat.le_of_ble_eq_true rfl) fun w0 S0 => ?_
  change G _ _ ⟨[(0, .agg [.row false 3 (ps.map pv), .row false 5 (ks.map kv)]), (1, .int .i64 p)], [], 52⟩
  apply G.seq
  refine G.rg tab_ok (kof_nil _) (hk := ?_)
  apply G.seq
  refine G.rg tab_ok (kof_nil _) (hk := ?_)
  apply G.seq
  apply G.seq
  refine G.rg tab_ok (kof_nil _) (hk := ?_)
  apply G.block
  refine G.nm [1, 2, 5, 14, 15] (h := ?_)
  refine G.loopX (fun j : Nat => ⟨[(1, .int .i64 p), (2, .ptr 0 0 0), (5, .sl 1 0 ps.length), (14, .int .i64 ps.length), (15, .int .i64 j)], [some (2, [[.row false 3 (ps.map pv), .row false 5 (ks.map kv)]]), some (1, (mN p ks ps.length j).map gbv)], 52⟩) (fun j => j ≤ ps.length) (fun j => ps.length - j) (0) (Nat.zero_le _) (by simp [mN]) ?_
  intro j hj J hJ
  have hw : IntKind.i64.wrap ((j : Int) + 1) = (j : Int) + 1 := wrap64 (by omega) (by omega)
  apply G.seq
  refine G.rg tab_ok (kof_nil _) (hk := ?_)
  apply G.seq
  refine G.iff (h1 := fun h1 => ?_) (h2 := fun h1 => ?_)
  · try simp only [decide_eq_true_eq, decide_eq_false_iff_not, Bool.and_eq_true, Bool.and_eq_false_imp, Bool.or_eq_true, Bool.or_eq_false_iff, Bool.not_eq_true', Bool.not_eq_false', bne_iff_ne, beq_iff_eq, bne_eq_false_iff_eq, beq_eq_false_iff_ne, ne_eq, Int.ofNat_lt, Int.not_lt, Int.not_le, Int.ofNat_le, Nat.not_lt, Nat.not_le, gt_iff_lt, ge_iff_le] at h1
    apply G.skip
    apply G.seq
    apply G.block
    apply G.seq
    refine G.rg tab_ok (kof_nil _) (hk := ?_)
    apply G.block
    have hjp : j < ps.length := by omega
    have hJo := hJ
    clear hJ
    refine G.nm [1, 2, 5, 14, 15, 18, 19, 20] (h := ?_)
    refine G.loopX (fun i : Nat => ⟨[(1, .int .i64 p), (2, .ptr 0 0 0), (5, .sl 1 0 ps.length), (14, .int .i64 ps.length), (15, .int .i64 j), (18, .row false 5 (ks.map kv)), (19, .int .i64 ks.length), (20, .int .i64 i)], [some (2, [[.row false 3 (ps.map pv), .row false 5 (ks.map kv)]]), some (1, (mlU p ks (mN p ks ps.length j) i).map gbv)], 52⟩) (fun i => i ≤ ks.length) (fun i => ks.length - i) (0) (Nat.zero_le _) (by simp [mlU]) ?_
    intro i hi J hJ
    have hwi : IntKind.i64.wrap ((i : Int) + 1) = (i : Int) + 1 := wrap64 (by omega) (by omega)
    have hml : (mlU p ks (mN p ks ps.length j) i).length = ps.length := by rw [mlU_len, mN_len]
    apply G.seq
    refine G.rg tab_ok (kof_nil _) (hk := ?_)
    apply G.seq
    refine G.iff (h1 := fun h2 => ?_) (h2 := fun h2 => ?_)
    · try simp only [decide_eq_true_eq, decide_eq_false_iff_not, Bool.and_eq_true, Bool.and_eq_false_imp, Bool.or_eq_true, Bool.or_eq_false_iff, Bool.not_eq_true', Bool.not_eq_false', bne_iff_ne, beq_iff_eq, bne_eq_false_iff_eq, beq_eq_false_iff_ne, ne_eq, Int.ofNat_lt, Int.not_lt, Int.not_le, Int.ofNat_le, Nat.not_lt, Nat.not_le, gt_iff_lt, ge_iff_le] at h2
      apply G.skip
      apply G.seq
      apply G.block
      apply G.seq
      have hik : i < ks.length := by omega
      have hx := hrg _ (getD_mem0 hik)
      refine G.rg tab_ok (kof_nil _) (hk := ?_)
      apply G.seq
      rcases (show ¬ (ks.getD i default).fr ≥ 0 ∨ ((ks.getD i default).fr ≥ 0 ∧ ¬ (ks.getD i default).to ≥ 0) ∨ ((ks.getD i default).fr ≥ 0 ∧ (ks.getD i default).to ≥ 0 ∧ ((ks.getD i default).fr == p) = true) ∨ ((ks.getD i default).fr ≥ 0 ∧ (ks.getD i default).to ≥ 0 ∧ ((ks.getD i default).fr == p) = false ∧ (mlU p ks (mN p ks ps.length j) i).getD (ks.getD i default).fr.toNat default = true) ∨ ((ks.getD i default).fr ≥ 0 ∧ (ks.getD i default).to ≥ 0 ∧ ((ks.getD i default).fr == p) = false ∧ (mlU p ks (mN p ks ps.length j) i).getD (ks.getD i default).fr.toNat default = false) by cases (ks.getD i default).fr == p <;> cases (mlU p ks (mN p ks ps.length j) i).getD (ks.getD i default).fr.toNat default <;> simp <;> omega) with c1 | ⟨c1, c2⟩ | ⟨c1, c2, c3⟩ | ⟨c1, c2, c3, c4⟩ | ⟨c1, c2, c3, c4⟩
      · skip
        have hcm : condM p (mlU p ks (mN p ks ps.length j) i) (ks.getD i default) = false := by unfold condM; rw [decide_eq_false c1]; rfl
        have hst : mlU p ks (mN p ks ps.length j) (i + 1) = (mlU p ks (mN p ks ps.length j) i) := by
          show mst p _ _ = _
          unfold mst
          rw [hcm]
          rfl
        refine G.rgN 3 tab_ok (kof_nil _) (hk := ?_)
        refine G.rdC tab_ok (kof_nil _) (hk := ?_)
        refine G.iffF (h2 := ?_)
        apply G.skip
        apply G.blk
        refine G.rg tab_ok (kof_nil _) (hk := ?_)
        refine G.nm [1, 2, 5, 14, 15, 18, 19, 20] (h := ?_)
        exact G.upto (hJ (i + 1) (by omega) (by omega)) (by rw [hst]; simp)
      · skip
        have hcm : condM p (mlU p ks (mN p ks ps.length j) i) (ks.getD i default) = false := by unfold condM; rw [decide_eq_false c2, Bool.and_false]; rfl
        have hst : mlU p ks (mN p ks ps.length j) (i + 1) = (mlU p ks (mN p ks ps.length j) i) := by
          show mst p _ _ = _
          unfold mst
          rw [hcm]
          rfl
        refine G.rgN 3 tab_ok (kof_nil _) (hk := ?_)
        refine G.rdC tab_ok (kof_nil _) (hk := ?_)
        refine G.iffF (h2 := ?_)
        apply G.skip
        apply G.blk
        refine G.rg tab_ok (kof_nil _) (hk := ?_)
        refine G.nm [1, 2, 5, 14, 15, 18, 19, 20] (h := ?_)
        exact G.upto (hJ (i + 1) (by omega) (by omega)) (by rw [hst]; simp)
      · skip
        have hcm : condM p (mlU p ks (mN p ks ps.length j) i) (ks.getD i default) = true := by unfold condM; rw [decide_eq_true c1, decide_eq_true c2, c3]; rfl
        have hst : mlU p ks (mN p ks ps.length j) (i + 1) = (mlU p ks (mN p ks ps.length j) i).set (ks.getD i default).to.toNat true := by
          show mst p _ _ = _
          unfold mst
          rw [hcm]
          rfl
        have t1 : (ks.getD i default).to.toNat < (mlU p ks (mN p ks ps.length j) i).length := by omega
        have t2 : (ks.getD i default).to < (ps.length : Int) := hx.2
        have hm1 : (List.map gbv (mlU p ks (mN p ks ps.length j) i))[(ks.getD i default).to.toNat]? = some [.bool ((mlU p ks (mN p ks ps.length j) i).getD (ks.getD i default).to.toNat default)] := by rw [List.getElem?_map, getD_some t1]; rfl
        have hm3 : (List.map gbv (mlU p ks (mN p ks ps.length j) i)).set (ks.getD i default).to.toNat [.bool true] = ((mlU p ks (mN p ks ps.length j) i).set (ks.getD i default).to.toNat true).map gbv := by rw [List.map_set]; rfl
        refine G.rgN 3 tab_ok (kof_nil _) (hk := ?_)
        refine G.rdC tab_ok (kof_nil _) (hk := ?_)
        refine G.iffT (h1 := ?_)
        refine G.rg tab_ok (kof_nil _) (hk := ?_)
        apply G.blk
        refine G.fg [1, 2, 5, 14, 15, 18, 19, 20] (hk := ?_)
        refine G.rg tab_ok (kof_nil _) (hk := ?_)
        refine G.nm [1, 2, 5, 14, 15, 18, 19, 20] (h := ?_)
        exact G.upto (hJ (i + 1) (by omega) (by omega)) (by rw [hst]; simp)
      · skip
        have hcm : condM p (mlU p ks (mN p ks ps.length j) i) (ks.getD i default) = true := by unfold condM; rw [decide_eq_true c1, decide_eq_true c2, c3, c4]; rfl
        have hst : mlU p ks (mN p ks ps.length j) (i + 1) = (mlU p ks (mN p ks ps.length j) i).set (ks.getD i default).to.toNat true := by
          show mst p _ _ = _
          unfold mst
          rw [hcm]
          rfl
        have t1 : (ks.getD i default).to.toNat < (mlU p ks (mN p ks ps.length j) i).length := by omega
        have t2 : (ks.getD i default).to < (ps.length : Int) := hx.2
        have hm1 : (List.map gbv (mlU p ks (mN p ks ps.length j) i))[(ks.getD i default).to.toNat]? = some [.bool ((mlU p ks (mN p ks ps.length j) i).getD (ks.getD i default).to.toNat default)] := by rw [List.getElem?_map, getD_some t1]; rfl
        have hm3 : (List.map gbv (mlU p ks (mN p ks ps.length j) i)).set (ks.getD i default).to.toNat [.bool true] = ((mlU p ks (mN p ks ps.length j) i).set (ks.getD i default).to.toNat true).map gbv := by rw [List.map_set]; rfl
        have f1 : (ks.getD i default).fr < (ps.length : Int) := hx.1
        have f2 : (ks.getD i default).fr.toNat < (mlU p ks (mN p ks ps.length j) i).length := by omega
        have hm5 : rdCells (List.map gbv (mlU p ks (mN p ks ps.length j) i)) (ks.getD i default).fr.toNat 0 1 = some [.bool true] := by rw [← c4]; simp only [rdCells, List.getElem?_map, getD_some f2]; rfl
        refine G.rgN 3 tab_ok (kof_nil _) (hk := ?_)
        refine G.rdC tab_ok (kof_nil _) (hk := ?_)
        refine G.iffT (h1 := ?_)
        refine G.rg tab_ok (kof_nil _) (hk := ?_)
        apply G.blk
        refine G.fg [1, 2, 5, 14, 15, 18, 19, 20] (hk := ?_)
        refine G.rg tab_ok (kof_nil _) (hk := ?_)
        refine G.nm [1, 2, 5, 14, 15, 18, 19, 20] (h := ?_)
        exact G.upto (hJ (i + 1) (by omega) (by omega)) (by rw [hst]; simp)
      · skip
        have hcm : condM p (mlU p ks (mN p ks ps.length j) i) (ks.getD i default) = false := by unfold condM; rw [decide_eq_true c1, decide_eq_true c2, c3, c4]; rfl
        have hst : mlU p ks (mN p ks ps.length j) (i + 1) = (mlU p ks (mN p ks ps.length j) i) := by
          show mst p _ _ = _
          unfold mst
          rw [hcm]
          rfl
        have f1 : (ks.getD i default).fr < (ps.length : Int) := hx.1
        have f2 : (ks.getD i default).fr.toNat < (mlU p ks (mN p ks ps.length j) i).length := by omega
        have hm5 : rdCells (List.map gbv (mlU p ks (mN p ks ps.length j) i)) (ks.getD i default).fr.toNat 0 1 = some [.bool false] := by rw [← c4]; simp only [rdCells, List.getElem?_map, getD_some f2]; rfl
        refine G.rgN 3 tab_ok (kof_nil _) (hk := ?_)
        refine G.rdC tab_ok (kof_nil _) (hk := ?_)
        refine G.iffF (h2 := ?_)
        apply G.skip
        apply G.blk
        refine G.rg tab_ok (kof_nil _) (hk := ?_)
        refine G.nm [1, 2, 5, 14, 15, 18, 19, 20] (h := ?_)
        exact G.upto (hJ (i + 1) (by omega) (by omega)) (by rw [hst]; simp)
    · try simp only [decide_eq_true_eq, decide_eq_false_iff_not, Bool.and_eq_true, Bool.and_eq_false_imp, Bool.or_eq_true, Bool.or_eq_false_iff, Bool.not_eq_true', Bool.not_eq_false', bne_iff_ne, beq_iff_eq, bne_eq_false_iff_eq, beq_eq_false_iff_ne, ne_eq, Int.ofNat_lt, Int.not_lt, Int.not_le, Int.ofNat_le, Nat.not_lt, Nat.not_le, gt_iff_lt, ge_iff_le] at h2
      refine G.exit rfl ?_
      apply G.blk
      obtain rfl : i = ks.length := by omega
      refine G.rg tab_ok (kof_nil _) (hk := ?_)
      refine G.nm [1, 2, 5, 14, 15] (h := ?_)
      exact G.upto (hJo (j + 1) (by omega) (by omega)) (by simp [mN])
  · try simp only [decide_eq_true_eq, decide_eq_false_iff_not, Bool.and_eq_true, Bool.and_eq_false_imp, Bool.or_eq_true, Bool.or_eq_false_iff, Bool.not_eq_true', Bool.not_eq_false', bne_iff_ne, beq_iff_eq, bne_eq_false_iff_eq, beq_eq_false_iff_ne, ne_eq, Int.ofNat_lt, Int.not_lt, Int.not_le, Int.ofNat_le, Nat.not_lt, Nat.not_le, gt_iff_lt, ge_iff_le] at h1
    refine G.exit rfl ?_
    apply G.seq
    refine G.rg tab_ok (kof_nil _) (hk := ?_)
    obtain rfl : j = ps.length := by omega
    have hml : (mN p ks ps.length ps.length).length = ps.length := mN_len _
    have hl1 : ps.length ≤ (mN p ks ps.length ps.length).length := by omega
    have hl2 : List.take ps.length ((mN p ks ps.length ps.length).map gbv) = (mN p ks ps.length ps.length).map gbv := List.take_of_length_le (by simp [hml])
    clear hml
    refine G.fin tab_ok (hr := ?_)
    rfl
def r_l3Reached (xs0 : List A) (rr : A) : Prop := ∃ (ps : List PG) (ks : List LK) (p : Int), (netOk ps ks = true) ∧ xs0 = [.agg [.row false 3 (ps.map pv), .row false 5 (ks.map kv)], .int .i64 p] ∧ rr = .row true 1 ((mN p ks ps.length ps.length).map gbv)
noncomputable def q_l3Reached : List A → Option A := kgr r_l3Reached
theorem k_l3Reached : KOk Try.prog (70, q_l3Reached) := kgr_ok (enters_of Try.func70 rfl rfl) (by rintro xs0 rr ⟨ps, ks, p, hc1, rfl, rfl⟩; exact l3Reached_ac ps ks p hc1)
theorem e_l3Reached : ∀ (ps : List PG) (ks : List LK) (p : Int), (netOk ps ks = true) → q_l3Reached [.agg [.row false 3 (ps.map pv), .row false 5 (ks.map kv)], .int .i64 p] = some (.row true 1 ((mN p ks ps.length ps.length).map gbv)) := by
  intro ps ks p hc1
  refine kgr_eq (fun xs0 rr r2 h h2 => ?_) ⟨ps, ks, p, hc1, rfl, rfl⟩
  obtain ⟨ps1, ks1, p1, _, e1, rfl⟩ := h; obtain ⟨ps2, ks2, p2, _, e2, rfl⟩ := h2
  rw [e1] at e2
  simp only [List.cons.injEq, A.int.injEq, A.agg.injEq, A.row.injEq, pv_inj, kv_inj, true_and, and_true] at e2
  obtain ⟨⟨e3, e4⟩, e5⟩ := e2
  subst e3 e4 e5
  rfl
end Go.Proofs.Ytahcojaklooliaa.Ab
