/- Walks of functions of the program: what each answers, for all arguments that meet its conditions. -/
import Derived.Test.YticgaflgbljhlaaAbPerm2
import Derived.Test.YticgaflgbljhlaaFwGg
import Derived.Test.YticgaflgbljhlaaFwGc
import Derived.Test.YticgaflgbljhlaaFwB
import Derived.Test.YticgaflgbljhlaaFwGa
namespace Go.Proofs.Yticgaflgbljhlaa.Ab
open Go
set_option linter.unusedVariables false
set_option linter.unusedSimpArgs false
set_option maxHeartbeats 4000000
theorem indexInt_ac (order : List Int) (x : Int) (hc1 : order.length < 17592186044416) : AC Try.prog 103 [.row false 1 (order.map iv), .int .i64 x] (.int .i64 (atI order x)) := by
  refine AC.of tab_ok Try.func103 rfl (Nat.le_of_ble_eq_true rfl) fun w0 S0 => ?_
  change G _ _ ⟨[(0, .row false 1 (order.map iv)), (1, .int .i64 x)], [], 19⟩
  apply G.seq
  refine G.rg tab_ok (kof_nil _) (hk := ?_)
  apply G.seq
  apply G.seq
  refine G.rg tab_ok (kof_nil _) (hk := ?_)
  apply G.block
  refine G.cn [0, 1, 7, 8] [] (h := ?_)
  refine G.loopX (fun j : Nat => ⟨[(0, .row false 1 (order.map iv)), (1, .int .i64 x), (7, .int .i64 order.length), (8, .int .i64 j)], [], 19⟩) (fun j => j ≤ order.length ∧ ∀ k < j, (fun y => y == x) (order.getD k default) = false) (fun j => order.length - j) (0) (⟨Nat.zero_le _, by omega⟩) (by simp) ?_
  intro j hj J hJ
  obtain ⟨hj, hall⟩ := hj
  have hw : IntKind.i64.wrap ((j : Int) + 1) = (j : Int) + 1 := wrap64 (by omega) (by omega)
  apply G.seq
  refine G.rg tab_ok (kof_nil _) (hk := ?_)
  apply G.seq
  refine G.iff (h1 := fun h1 => ?_) (h2 := fun h1 => ?_)
  · try simp only [decide_eq_true_eq, decide_eq_false_iff_not, Bool.and_eq_true, Bool.and_eq_false_imp, Bool.or_eq_true, Bool.or_eq_false_iff, Bool.not_eq_true', Bool.not_eq_false', bne_iff_ne, beq_iff_eq, bne_eq_false_iff_eq, beq_eq_false_iff_ne, ne_eq, Int.ofNat_lt, Int.not_lt, Int.not_le, Int.ofNat_le, Nat.not_lt, Nat.not_le, gt_iff_lt, ge_iff_le] at h1
    apply G.skip
    apply G.seq
    apply G.block
    apply G.seq
    refine G.rg tab_ok (kof_nil _) (hk := ?_)
    apply G.seq
    refine G.rg tab_ok (kof_nil _) (hk := ?_)
    refine G.fg [0, 1, 5, 7, 8, 16] (hk := ?_)
    refine G.iff (h1 := fun h2 => ?_) (h2 := fun h2 => ?_)
    · try simp only [decide_eq_true_eq, decide_eq_false_iff_not, Bool.and_eq_true, Bool.and_eq_false_imp, Bool.or_eq_true, Bool.or_eq_false_iff, Bool.not_eq_true', Bool.not_eq_false', bne_iff_ne, beq_iff_eq, bne_eq_false_iff_eq, beq_eq_false_iff_ne, ne_eq, Int.ofNat_lt, Int.not_lt, Int.not_le, Int.ofNat_le, Nat.not_lt, Nat.not_le, gt_iff_lt, ge_iff_le] at h2
      apply G.seq
      refine G.rg tab_ok (kof_nil _) (hk := ?_)
      refine G.fin tab_ok (hr := ?_)
      simp only [oneOrTup]
      congr 1
      exact (gidx_some (p := fun y => y == x) (by omega) hall (by simpa using h2.symm)).symm
    · try simp only [decide_eq_true_eq, decide_eq_false_iff_not, Bool.and_eq_true, Bool.and_eq_false_imp, Bool.or_eq_true, Bool.or_eq_false_iff, Bool.not_eq_true', Bool.not_eq_false', bne_iff_ne, beq_iff_eq, bne_eq_false_iff_eq, beq_eq_false_iff_ne, ne_eq, Int.ofNat_lt, Int.not_lt, Int.not_le, Int.ofNat_le, Nat.not_lt, Nat.not_le, gt_iff_lt, ge_iff_le] at h2
      apply G.skip
      apply G.blk
      refine G.rg tab_ok (kof_nil _) (hk := ?_)
      refine G.cn [0, 1, 7, 8] [] (h := ?_)
      exact G.upto (hJ (j + 1) ⟨by omega, gupto (p := fun y => y == x) hall (by simpa using fun e => h2 e.symm)⟩ (by omega)) (by simp)
  · try simp only [decide_eq_true_eq, decide_eq_false_iff_not, Bool.and_eq_true, Bool.and_eq_false_imp, Bool.or_eq_true, Bool.or_eq_false_iff, Bool.not_eq_true', Bool.not_eq_false', bne_iff_ne, beq_iff_eq, bne_eq_false_iff_eq, beq_eq_false_iff_ne, ne_eq, Int.ofNat_lt, Int.not_lt, Int.not_le, Int.ofNat_le, Nat.not_lt, Nat.not_le, gt_iff_lt, ge_iff_le] at h1
    refine G.exit rfl ?_
    apply G.seq
    refine G.rg tab_ok (kof_nil _) (hk := ?_)
    refine G.fin tab_ok (hr := ?_)
    simp only [oneOrTup]
    congr 1
    exact (gidx_none (p := fun y => y == x) (fun k hk => hall k (by omega))).symm
def r_indexInt (xs0 : List A) (rr : A) : Prop := ∃ (order : List Int) (x : Int), (order.length < 17592186044416) ∧ xs0 = [.row false 1 (order.map iv), .int .i64 x] ∧ rr = .int .i64 (atI order x)
noncomputable def q_indexInt : List A → Option A := kgr r_indexInt
theorem k_indexInt : KOk Try.prog (103, q_indexInt) := kgr_ok (enters_of Try.func103 rfl rfl) (by rintro xs0 rr ⟨order, x, hc1, rfl, rfl⟩; exact indexInt_ac order x hc1)
theorem e_indexInt : ∀ (order : List Int) (x : Int), (order.length < 17592186044416) → q_indexInt [.row false 1 (order.map iv), .int .i64 x] = some (.int .i64 (atI order x)) := by
  intro order x hc1
  refine kgr_eq (fun xs0 rr r2 h h2 => ?_) ⟨order, x, hc1, rfl, rfl⟩
  obtain ⟨order1, x1, _, e1, rfl⟩ := h; obtain ⟨order2, x2, _, e2, rfl⟩ := h2
  rw [e1] at e2
  simp only [List.cons.injEq, A.int.injEq, A.bool.injEq, A.agg.injEq, A.row.injEq, A.fn.injEq, A.rp.injEq, insv_inj, iv_inj, true_and, and_true] at e2
  simp [e2]
theorem ok_containsInt : Kn.ok Try.prog (kof [(103, q_indexInt)]) := kof_cons k_indexInt ((kof_nil _))
theorem containsInt_ac (order : List Int) (x : Int) (hc1 : order.length < 17592186044416) : AC Try.prog 101 [.row false 1 (order.map iv), .int .i64 x] (.bool (hasI order x)) := by
  have e_indexInt := e_indexInt
  refine AC.of tab_ok Try.func101 rfl (Nat.le_of_ble_eq_true rfl) fun w0 S0 => ?_
  change G _ _ ⟨[(0, .row false 1 (order.map iv)), (1, .int .i64 x)], [], 9⟩
  apply G.seq
  refine G.rg tab_ok ok_containsInt (hk := ?_)
  apply G.seq
  refine G.rg tab_ok ok_containsInt (hk := ?_)
  refine G.fin tab_ok (hr := ?_)
  simp only [oneOrTup]
  congr 1
  exact at_ge x
def r_containsInt (xs0 : List A) (rr : A) : Prop := ∃ (order : List Int) (x : Int), (order.length < 17592186044416) ∧ xs0 = [.row false 1 (order.map iv), .int .i64 x] ∧ rr = .bool (hasI order x)
noncomputable def q_containsInt : List A → Option A := kgr r_containsInt
theorem k_containsInt : KOk Try.prog (101, q_containsInt) := kgr_ok (enters_of Try.func101 rfl rfl) (by rintro xs0 rr ⟨order, x, hc1, rfl, rfl⟩; exact containsInt_ac order x hc1)
theorem e_containsInt : ∀ (order : List Int) (x : Int), (order.length < 17592186044416) → q_containsInt [.row false 1 (order.map iv), .int .i64 x] = some (.bool (hasI order x)) := by
  intro order x hc1
  refine kgr_eq (fun xs0 rr r2 h h2 => ?_) ⟨order, x, hc1, rfl, rfl⟩
  obtain ⟨order1, x1, _, e1, rfl⟩ := h; obtain ⟨order2, x2, _, e2, rfl⟩ := h2
  rw [e1] at e2
  simp only [List.cons.injEq, A.int.injEq, A.bool.injEq, A.agg.injEq, A.row.injEq, A.fn.injEq, A.rp.injEq, insv_inj, iv_inj, true_and, and_true] at e2
  simp [e2]
theorem l3Inverse_ac (order : List Int) (n : Nat) (hc1 : order.length < 17592186044416) (hc2 : n < 3518437208781) : AC Try.prog 100 [.row false 1 (order.map iv), .int .i64 (n : Int)] (.tup [.row true 1 ((invO order n).1.map iv), .bool (invO order n).2]) := by
  have hb1 : (n : Int) ≤ 4611686018427387904 := by omega
  have hb2 : 8 * (n : Int) ≤ 140737488355328 := by omega
  have hb3 : 1 * (n : Int) ≤ 140737488355328 := by omega
  have hgb := gbv_eq
  have hpg := pureLL_gbv
  have hrep : ∀ n, List.replicate n [A.int .i64 0] = (List.replicate n (0 : Int)).map iv := fun n => by simp [iv]
  have hrepb : ∀ n, List.replicate n [A.bool false] = (List.replicate n false).map gbv := fun n => by simp [gbv]
  refine AC.of tab_ok Try.func100 rfl (Nat.le_of_ble_eq_true rfl) fun w0 S0 => ?_
  change G _ _ ⟨[(0, .row false 1 (order.map iv)), (1, .int .i64 (n : Int))], [], 45⟩
  apply G.seq
  refine G.rg tab_ok (kof_nil _) (hk := ?_)
  apply G.seq
  apply G.seq
  refine G.rg tab_ok (kof_nil _) (hk := ?_)
  refine G.iff (h1 := fun h1 => ?_) (h2 := fun h1 => ?_)
  · try simp only [decide_eq_true_eq, decide_eq_false_iff_not, Bool.and_eq_true, Bool.and_eq_false_imp, Bool.or_eq_true, Bool.or_eq_false_iff, Bool.not_eq_true', Bool.not_eq_false', bne_iff_ne, beq_iff_eq, bne_eq_false_iff_eq, beq_eq_false_iff_ne, ne_eq, Int.ofNat_lt, Int.not_lt, Int.not_le, Int.ofNat_le, Nat.not_lt, Nat.not_le, gt_iff_lt, ge_iff_le] at h1
    apply G.seq
    refine G.rg tab_ok (kof_nil _) (hk := ?_)
    refine G.nilRow 4 1 rfl ?_
    refine G.fin tab_ok (hr := ?_)
    rw [invO_no (perm_len_no (by omega))]
    rfl
  · try simp only [decide_eq_true_eq, decide_eq_false_iff_not, Bool.and_eq_true, Bool.and_eq_false_imp, Bool.or_eq_true, Bool.or_eq_false_iff, Bool.not_eq_true', Bool.not_eq_false', bne_iff_ne, beq_iff_eq, bne_eq_false_iff_eq, beq_eq_false_iff_ne, ne_eq, Int.ofNat_lt, Int.not_lt, Int.not_le, Int.ofNat_le, Nat.not_lt, Nat.not_le, gt_iff_lt, ge_iff_le] at h1
    apply G.skip
    apply G.seq
    refine G.rg tab_ok (kof_nil _) (hk := ?_)
    apply G.seq
    refine G.rg tab_ok (kof_nil _) (hk := ?_)
    apply G.seq
    apply G.seq
    refine G.rg tab_ok (kof_nil _) (hk := ?_)
    apply G.block
    have hle1 : order.length ≤ n := by omega
    have hle2 : n ≤ order.length := by omega
    have hlen : order.length = n := by omega
    clear h1
    refine G.nm [1, 6, 7, 18, 19, 20] (h := ?_)
    refine G.loopX (fun j : Nat => ⟨[(1, .int .i64 (n : Int)), (6, .sl 0 0 n), (7, .sl 1 0 n), (18, .row false 1 (order.map iv)), (19, .int .i64 order.length), (20, .int .i64 j)], [some (1, (invU order n j).map iv), some (1, (metU order n j).map gbv)], 45⟩) (fun j => j ≤ order.length ∧ (∀ k < j, 0 ≤ order.getD k default ∧ order.getD k default < (n : Int)) ∧ (∀ k < j, ∀ m < k, order.getD m default ≠ order.getD k default)) (fun j => order.length - j) (0) (⟨Nat.zero_le _, by omega, by omega⟩) (by simp [invU, metU, hlen]) ?_
    intro j hj J hJ
    obtain ⟨hj, hin, hd⟩ := hj
    clear hlen
    have hw : IntKind.i64.wrap ((j : Int) + 1) = (j : Int) + 1 := wrap64 (by omega) (by omega)
    have hil := invU_len (order := order) (n := n) j
    have hml := metU_len (order := order) (n := n) j
    apply G.seq
    refine G.rg tab_ok (kof_nil _) (hk := ?_)
    apply G.seq
    refine G.iff (h1 := fun h2 => ?_) (h2 := fun h2 => ?_)
    · try simp only [decide_eq_true_eq, decide_eq_false_iff_not, Bool.and_eq_true, Bool.and_eq_false_imp, Bool.or_eq_true, Bool.or_eq_false_iff, Bool.not_eq_true', Bool.not_eq_false', bne_iff_ne, beq_iff_eq, bne_eq_false_iff_eq, beq_eq_false_iff_ne, ne_eq, Int.ofNat_lt, Int.not_lt, Int.not_le, Int.ofNat_le, Nat.not_lt, Nat.not_le, gt_iff_lt, ge_iff_le] at h2
      apply G.skip
      apply G.seq
      apply G.block
      apply G.seq
      have hjo : j < order.length := by omega
      refine G.rg tab_ok (kof_nil _) (hk := ?_)
      apply G.seq
      apply G.seq
      refine G.rg tab_ok (kof_nil _) (hk := ?_)
      refine G.fg [1, 6, 7, 8, 9, 18, 19, 20, 31] (hk := ?_)
      refine G.iff (h1 := fun h3 => ?_) (h2 := fun h3 => ?_)
      · try simp only [decide_eq_true_eq, decide_eq_false_iff_not, Bool.and_eq_true, Bool.and_eq_false_imp, Bool.or_eq_true, Bool.or_eq_false_iff, Bool.not_eq_true', Bool.not_eq_false', bne_iff_ne, beq_iff_eq, bne_eq_false_iff_eq, beq_eq_false_iff_ne, ne_eq, Int.ofNat_lt, Int.not_lt, Int.not_le, Int.ofNat_le, Nat.not_lt, Nat.not_le, gt_iff_lt, ge_iff_le] at h3
        apply G.seq
        refine G.rg tab_ok (kof_nil _) (hk := ?_)
        refine G.nilRow 4 1 rfl ?_
        refine G.fin tab_ok (hr := ?_)
        rw [invO_no (perm_no_in (j := j) hjo (by omega))]
        rfl
      · try simp only [decide_eq_true_eq, decide_eq_false_iff_not, Bool.and_eq_true, Bool.and_eq_false_imp, Bool.or_eq_true, Bool.or_eq_false_iff, Bool.not_eq_true', Bool.not_eq_false', bne_iff_ne, beq_iff_eq, bne_eq_false_iff_eq, beq_eq_false_iff_ne, ne_eq, Int.ofNat_lt, Int.not_lt, Int.not_le, Int.ofNat_le, Nat.not_lt, Nat.not_le, gt_iff_lt, ge_iff_le] at h3
        apply G.skip
        apply G.seq
        apply G.seq
        have h0 : 0 ≤ order.getD j default := by omega
        have h1 : order.getD j default < (n : Int) := by omega
        have h2 : (order.getD j default).toNat < (metU order n j).length := by omega
        have h3 : (order.getD j default).toNat < (invU order n j).length := by omega
        have hm1 : (List.map gbv (metU order n j))[(order.getD j default).toNat]? = some [.bool ((metU order n j).getD (order.getD j default).toNat default)] := by rw [List.getElem?_map, getD_some h2]; rfl
        have hm2 : (List.map iv (invU order n j))[(order.getD j default).toNat]? = some [.int .i64 ((invU order n j).getD (order.getD j default).toNat default)] := by rw [List.getElem?_map, getD_some h3]; rfl
        have hm3 : (List.map gbv (metU order n j)).set (order.getD j default).toNat [.bool true] = (metU order n (j + 1)).map gbv := by show _ = ((metU order n j).set _ true).map gbv; rw [List.map_set]; rfl
        have hm4 : (List.map iv (invU order n j)).set (order.getD j default).toNat [.int .i64 (j : Int)] = (invU order n (j + 1)).map iv := by show _ = ((invU order n j).set _ _).map iv; rw [List.map_set]; rfl
        have hm5 : rdCells (List.map gbv (metU order n j)) (order.getD j default).toNat 0 1 = some [.bool ((metU order n j).getD (order.getD j default).toNat default)] := by simp only [rdCells, hm1]; rfl
        refine G.rg tab_ok (kof_nil _) (hk := ?_)
        refine G.iff (h1 := fun h4 => ?_) (h2 := fun h4 => ?_)
        · try simp only [decide_eq_true_eq, decide_eq_false_iff_not, Bool.and_eq_true, Bool.and_eq_false_imp, Bool.or_eq_true, Bool.or_eq_false_iff, Bool.not_eq_true', Bool.not_eq_false', bne_iff_ne, beq_iff_eq, bne_eq_false_iff_eq, beq_eq_false_iff_ne, ne_eq, Int.ofNat_lt, Int.not_lt, Int.not_le, Int.ofNat_le, Nat.not_lt, Nat.not_le, gt_iff_lt, ge_iff_le] at h4
          apply G.seq
          refine G.rg tab_ok (kof_nil _) (hk := ?_)
          refine G.nilRow 4 1 rfl ?_
          refine G.fin tab_ok (hr := ?_)
          rw [invO_no (met_no (by omega) hin hjo h0 h1 (by simpa using h4))]
          rfl
        · try simp only [decide_eq_true_eq, decide_eq_false_iff_not, Bool.and_eq_true, Bool.and_eq_false_imp, Bool.or_eq_true, Bool.or_eq_false_iff, Bool.not_eq_true', Bool.not_eq_false', bne_iff_ne, beq_iff_eq, bne_eq_false_iff_eq, beq_eq_false_iff_ne, ne_eq, Int.ofNat_lt, Int.not_lt, Int.not_le, Int.ofNat_le, Nat.not_lt, Nat.not_le, gt_iff_lt, ge_iff_le] at h4
          apply G.skip
          apply G.seq
          refine G.rg tab_ok (kof_nil _) (hk := ?_)
          refine G.rg tab_ok (kof_nil _) (hk := ?_)
          apply G.blk
          refine G.rg tab_ok (kof_nil _) (hk := ?_)
          refine G.nm [1, 6, 7, 18, 19, 20] (h := ?_)
          exact G.upto (hJ (j + 1) ⟨by omega, up_step (p := fun k => 0 ≤ order.getD k default ∧ order.getD k default < (n : Int)) hin ⟨by omega, by omega⟩, up_step (p := fun k => ∀ m < k, order.getD m default ≠ order.getD k default) hd (met_yes hin (by omega) (by omega) (by simpa using h4))⟩ (by omega)) (by simp [invU, metU])
    · try simp only [decide_eq_true_eq, decide_eq_false_iff_not, Bool.and_eq_true, Bool.and_eq_false_imp, Bool.or_eq_true, Bool.or_eq_false_iff, Bool.not_eq_true', Bool.not_eq_false', bne_iff_ne, beq_iff_eq, bne_eq_false_iff_eq, beq_eq_false_iff_ne, ne_eq, Int.ofNat_lt, Int.not_lt, Int.not_le, Int.ofNat_le, Nat.not_lt, Nat.not_le, gt_iff_lt, ge_iff_le] at h2
      refine G.exit rfl ?_
      apply G.seq
      refine G.rg tab_ok (kof_nil _) (hk := ?_)
      obtain rfl : j = n := by omega
      have hil1 : j ≤ (invU order j j).length := by rw [invU_len]; exact Nat.le_refl _
      have hil2 : List.take j (List.map iv (invU order j j)) = List.map iv (invU order j j) := List.take_of_length_le (by simp [invU_len])
      have hie := invU_end (n := j) (by omega) hin hd
      refine G.fin tab_ok (hr := ?_)
      rw [hie]
      rfl
def r_l3Inverse (xs0 : List A) (rr : A) : Prop := ∃ (order : List Int) (n : Nat), (order.length < 17592186044416) ∧ (n < 3518437208781) ∧ xs0 = [.row false 1 (order.map iv), .int .i64 (n : Int)] ∧ rr = .tup [.row true 1 ((invO order n).1.map iv), .bool (invO order n).2]
noncomputable def q_l3Inverse : List A → Option A := kgr r_l3Inverse
theorem k_l3Inverse : KOk Try.prog (100, q_l3Inverse) := kgr_ok (enters_of Try.func100 rfl rfl) (by rintro xs0 rr ⟨order, n, hc1, hc2, rfl, rfl⟩; exact l3Inverse_ac order n hc1 hc2)
theorem e_l3Inverse : ∀ (order : List Int) (n : Nat), (order.length < 17592186044416) → (n < 3518437208781) → q_l3Inverse [.row false 1 (order.map iv), .int .i64 (n : Int)] = some (.tup [.row true 1 ((invO order n).1.map iv), .bool (invO order n).2]) := by
  intro order n hc1 hc2
  refine kgr_eq (fun xs0 rr r2 h h2 => ?_) ⟨order, n, hc1, hc2, rfl, rfl⟩
  obtain ⟨order1, n1, _, _, e1, rfl⟩ := h; obtain ⟨order2, n2, _, _, e2, rfl⟩ := h2
  rw [e1] at e2
  simp only [List.cons.injEq, A.int.injEq, A.row.injEq, iv_inj, true_and, and_true, Int.natCast_inj] at e2
  obtain ⟨e3, e4⟩ := e2
  subst e3 e4
  rfl
theorem ok_l3Link : Kn.ok Try.prog (kof [(147, q_l1Copy)]) := kof_cons k_l1Copy ((kof_nil _))
theorem l3Link_ac (fr : Int) (ou : Int) (to : Int) (ip : Int) (tk : List Int) (hc1 : tk.length ≤ 1048576) : AC Try.prog 97 [.agg [.int .i64 fr, .int .i64 ou, .int .i64 to, .int .i64 ip, .row false 1 (tk.map iv)]] (.agg [.int .i64 fr, .int .i64 ou, .int .i64 to, .int .i64 ip, .row true 1 (tk.map iv)]) := by
  have e_l1Copy := e_l1Copy
  refine AC.of tab_ok Try.func97 rfl (Nat.le_of_ble_eq_true rfl) fun w0 S0 => ?_
  change G _ _ ⟨[(0, .agg [.int .i64 fr, .int .i64 ou, .int .i64 to, .int .i64 ip, .row false 1 (tk.map iv)])], [], 15⟩
  apply G.seq
  refine G.rg tab_ok ok_l3Link (hk := ?_)
  apply G.seq
  refine G.dr mixed tab_ok ok_l3Link [0, 1, 2, 3, 4, 5, 6, 7, 8, 9, 10, 11, 12] (hk := ?_)
  refine G.fin tab_ok (hr := ?_)
  rfl
def r_l3Link (xs0 : List A) (rr : A) : Prop := ∃ (fr : Int) (ou : Int) (to : Int) (ip : Int) (tk : List Int), (tk.length ≤ 1048576) ∧ xs0 = [.agg [.int .i64 fr, .int .i64 ou, .int .i64 to, .int .i64 ip, .row false 1 (tk.map iv)]] ∧ rr = .agg [.int .i64 fr, .int .i64 ou, .int .i64 to, .int .i64 ip, .row true 1 (tk.map iv)]
noncomputable def q_l3Link : List A → Option A := kgr r_l3Link
theorem k_l3Link : KOk Try.prog (97, q_l3Link) := kgr_ok (enters_of Try.func97 rfl rfl) (by rintro xs0 rr ⟨fr, ou, to, ip, tk, hc1, rfl, rfl⟩; exact l3Link_ac fr ou to ip tk hc1)
theorem e_l3Link : ∀ (fr : Int) (ou : Int) (to : Int) (ip : Int) (tk : List Int), (tk.length ≤ 1048576) → q_l3Link [.agg [.int .i64 fr, .int .i64 ou, .int .i64 to, .int .i64 ip, .row false 1 (tk.map iv)]] = some (.agg [.int .i64 fr, .int .i64 ou, .int .i64 to, .int .i64 ip, .row true 1 (tk.map iv)]) := by
  intro fr ou to ip tk hc1
  refine kgr_eq (fun xs0 rr r2 h h2 => ?_) ⟨fr, ou, to, ip, tk, hc1, rfl, rfl⟩
  obtain ⟨fr1, ou1, to1, ip1, tk1, _, e1, rfl⟩ := h; obtain ⟨fr2, ou2, to2, ip2, tk2, _, e2, rfl⟩ := h2
  rw [e1] at e2
  simp only [List.cons.injEq, A.int.injEq, A.bool.injEq, A.agg.injEq, A.row.injEq, A.fn.injEq, A.rp.injEq, insv_inj, iv_inj, true_and, and_true] at e2
  simp [e2]
theorem ok_l3Copy : Kn.ok Try.prog (kof [(96, q_l3Program), (97, q_l3Link)]) := kof_cons k_l3Program (kof_cons k_l3Link ((kof_nil _)))
theorem l3Copy_ac (ps : List PG) (ks : List LK) (hc1 : netOk ps ks = true) : AC Try.prog 90 [.agg [.row false 3 (ps.map pv), .row false 5 (ks.map kv)]] (.agg [.row true 3 (ps.map opv), .row true 5 (ks.map okv)]) := by
  have e_l3Program := e_l3Program
  have e_l3Link := e_l3Link
  have hnk := hc1
  have hnw := netOk_w hnk
  have hp12 := hnw.pl
  have hk30 := hnw.kl
  have hsm := net_small hnk
  clear hnw
  refine AC.of tab_ok Try.func90 rfl (Nat.le_of_ble_eq_true rfl) fun w0 S0 => ?_
  change G _ _ ⟨[(0, .agg [.row false 3 (ps.map pv), .row false 5 (ks.map kv)])], [], 40⟩
  apply G.seq
  refine G.rg tab_ok ok_l3Copy (hk := ?_)
  apply G.seq
  refine G.rg tab_ok ok_l3Copy (hk := ?_)
  refine G.focusNil 2 0 0 3 rfl rfl rfl ?_
  simp only [withH]
  refine G.focusNil 2 0 1 5 rfl rfl rfl ?_
  simp only [withH]
  apply G.seq
  apply G.seq
  refine G.rg tab_ok ok_l3Copy (hk := ?_)
  apply G.block
  refine G.nm [1, 2, 3, 10, 11, 12] (h := ?_)
  refine G.loopX (fun j : Nat => ⟨[(1, .ptr 0 0 0), (2, .ptr 1 0 0), (3, .ptr 2 0 0), (10, .row false 3 (ps.map pv)), (11, .int .i64 ps.length), (12, .int .i64 j)], [some (2, [[.row false 3 (ps.map pv), .row false 5 (ks.map kv)]]), some (2, [[.nils, .nils]]), some (2, [[.sl 3 0 j, .sl 4 0 0]]), some (3, (ps.take j).map opv), some (5, [])], 40⟩) (fun j => j ≤ ps.length) (fun j => ps.length - j) (0) (Nat.zero_le _) (by simp) ?_
  intro j hj J hJ
  have hw : IntKind.i64.wrap ((j : Int) + 1) = (j : Int) + 1 := wrap64 (by omega) (by omega)
  apply G.seq
  refine G.rg tab_ok ok_l3Copy (hk := ?_)
  apply G.seq
  refine G.iff (h1 := fun h1 => ?_) (h2 := fun h1 => ?_)
  · try simp only [decide_eq_true_eq, decide_eq_false_iff_not, Bool.and_eq_true, Bool.and_eq_false_imp, Bool.or_eq_true, Bool.or_eq_false_iff, Bool.not_eq_true', Bool.not_eq_false', bne_iff_ne, beq_iff_eq, bne_eq_false_iff_eq, beq_eq_false_iff_ne, ne_eq, Int.ofNat_lt, Int.not_lt, Int.not_le, Int.ofNat_le, Nat.not_lt, Nat.not_le, gt_iff_lt, ge_iff_le] at h1
    apply G.skip
    apply G.seq
    apply G.block
    apply G.seq
    have hmj : min j ps.length = j := by omega
    have htk1 : List.take j ((ps.take j).map opv) = (ps.take j).map opv := List.take_of_length_le (by simp; omega)
    have htj : ps.take j ++ [ps.getD j default] = ps.take (j + 1) := take_snoc (by omega)
    have hlr : (ps.getD j default).l.length ≤ 1048576 := by have := hsm.1 j (by omega); omega
    have hq1 : ((j + 1 : Nat) : Int) ≤ 4611686018427387904 := by omega
    have hq2 : (j + 1) * 40 ≤ 70368744177664 := by omega
    refine G.rg tab_ok ok_l3Copy (hk := ?_)
    refine G.dr mixed tab_ok ok_l3Copy [0, 1, 2, 3, 4, 5, 6, 7] (hk := ?_)
    first
    | (refine G.lastE 3 2 5 (f := opv) (l := ps.take j) (ps.getD j default) rfl rfl rfl (by decide) (by simp) (pureLL_insv _) rfl ?_
       rw [htj])
    | (refine G.lastE 8 2 6 (f := opv) (l := ps.take j) (ps.getD j default) rfl rfl rfl (by decide) (by simp) (pureLL_insv _) rfl ?_
       rw [htj])
    apply G.blk
    refine G.rg tab_ok ok_l3Copy (hk := ?_)
    refine G.nm [1, 2, 3, 10, 11, 12] (h := ?_)
    exact G.upto (hJ (j + 1) (by omega) (by omega)) (by simp)
  · try simp only [decide_eq_true_eq, decide_eq_false_iff_not, Bool.and_eq_true, Bool.and_eq_false_imp, Bool.or_eq_true, Bool.or_eq_false_iff, Bool.not_eq_true', Bool.not_eq_false', bne_iff_ne, beq_iff_eq, bne_eq_false_iff_eq, beq_eq_false_iff_ne, ne_eq, Int.ofNat_lt, Int.not_lt, Int.not_le, Int.ofNat_le, Nat.not_lt, Nat.not_le, gt_iff_lt, ge_iff_le] at h1
    refine G.exit rfl ?_
    apply G.seq
    apply G.seq
    refine G.rg tab_ok ok_l3Copy (hk := ?_)
    apply G.block
    obtain rfl : j = ps.length := by omega
    rw [List.take_length]
    refine G.nm [2, 3, 25, 26, 27] (h := ?_)
    refine G.loopX (fun j : Nat => ⟨[(2, .ptr 0 0 0), (3, .ptr 1 0 0), (25, .row false 5 (ks.map kv)), (26, .int .i64 ks.length), (27, .int .i64 j)], [some (2, [[.nils, .nils]]), some (2, [[.sl 2 0 ps.length, .sl 3 0 j]]), some (3, ps.map opv), some (5, (ks.take j).map okv)], 40⟩) (fun j => j ≤ ks.length) (fun j => ks.length - j) (0) (Nat.zero_le _) (by simp) ?_
    intro j hj J hJ
    have hw : IntKind.i64.wrap ((j : Int) + 1) = (j : Int) + 1 := wrap64 (by omega) (by omega)
    apply G.seq
    refine G.rg tab_ok ok_l3Copy (hk := ?_)
    apply G.seq
    refine G.iff (h1 := fun h2 => ?_) (h2 := fun h2 => ?_)
    · try simp only [decide_eq_true_eq, decide_eq_false_iff_not, Bool.and_eq_true, Bool.and_eq_false_imp, Bool.or_eq_true, Bool.or_eq_false_iff, Bool.not_eq_true', Bool.not_eq_false', bne_iff_ne, beq_iff_eq, bne_eq_false_iff_eq, beq_eq_false_iff_ne, ne_eq, Int.ofNat_lt, Int.not_lt, Int.not_le, Int.ofNat_le, Nat.not_lt, Nat.not_le, gt_iff_lt, ge_iff_le] at h2
      apply G.skip
      apply G.seq
      apply G.block
      apply G.seq
      have hmj : min j ks.length = j := by omega
      have htk1 : List.take j ((ks.take j).map okv) = (ks.take j).map okv := List.take_of_length_le (by simp; omega)
      have htj : ks.take j ++ [ks.getD j default] = ks.take (j + 1) := take_snoc (by omega)
      have hlr : (ks.getD j default).tk.length ≤ 1048576 := by have := hsm.2 j (by omega); omega
      have hq1 : ((j + 1 : Nat) : Int) ≤ 4611686018427387904 := by omega
      have hq2 : (j + 1) * 56 ≤ 70368744177664 := by omega
      refine G.rg tab_ok ok_l3Copy (hk := ?_)
      refine G.dr mixed tab_ok ok_l3Copy [0, 1, 2, 3, 4, 5, 6, 7] (hk := ?_)
      first
      | (refine G.lastE 4 4 5 (f := okv) (l := ks.take j) (ks.getD j default) rfl rfl rfl (by decide) (by simp) (pureLL_iv _) rfl ?_
         rw [htj])
      | (refine G.lastE 8 4 6 (f := okv) (l := ks.take j) (ks.getD j default) rfl rfl rfl (by decide) (by simp) (pureLL_iv _) rfl ?_
         rw [htj])
      | (refine G.lastE 7 4 5 (f := okv) (l := ks.take j) (ks.getD j default) rfl rfl rfl (by decide) (by simp) (pureLL_iv _) rfl ?_
         rw [htj])
      apply G.blk
      refine G.rg tab_ok ok_l3Copy (hk := ?_)
      refine G.nm [2, 3, 25, 26, 27] (h := ?_)
      exact G.upto (hJ (j + 1) (by omega) (by omega)) (by simp)
    · try simp only [decide_eq_true_eq, decide_eq_false_iff_not, Bool.and_eq_true, Bool.and_eq_false_imp, Bool.or_eq_true, Bool.or_eq_false_iff, Bool.not_eq_true', Bool.not_eq_false', bne_iff_ne, beq_iff_eq, bne_eq_false_iff_eq, beq_eq_false_iff_ne, ne_eq, Int.ofNat_lt, Int.not_lt, Int.not_le, Int.ofNat_le, Nat.not_lt, Nat.not_le, gt_iff_lt, ge_iff_le] at h2
      refine G.exit rfl ?_
      apply G.seq
      refine G.rg tab_ok ok_l3Copy (hk := ?_)
      obtain rfl : j = ks.length := by omega
      rw [List.take_length]
      refine G.fin tab_ok (hr := ?_)
      rfl
def r_l3Copy (xs0 : List A) (rr : A) : Prop := ∃ (ps : List PG) (ks : List LK), (netOk ps ks = true) ∧ xs0 = [.agg [.row false 3 (ps.map pv), .row false 5 (ks.map kv)]] ∧ rr = .agg [.row true 3 (ps.map opv), .row true 5 (ks.map okv)]
noncomputable def q_l3Copy : List A → Option A := kgr r_l3Copy
theorem k_l3Copy : KOk Try.prog (90, q_l3Copy) := kgr_ok (enters_of Try.func90 rfl rfl) (by rintro xs0 rr ⟨ps, ks, hc1, rfl, rfl⟩; exact l3Copy_ac ps ks hc1)
theorem e_l3Copy : ∀ (ps : List PG) (ks : List LK), (netOk ps ks = true) → q_l3Copy [.agg [.row false 3 (ps.map pv), .row false 5 (ks.map kv)]] = some (.agg [.row true 3 (ps.map opv), .row true 5 (ks.map okv)]) := by
  intro ps ks hc1
  refine kgr_eq (fun xs0 rr r2 h h2 => ?_) ⟨ps, ks, hc1, rfl, rfl⟩
  obtain ⟨ps1, ks1, _, e1, rfl⟩ := h; obtain ⟨ps2, ks2, _, e2, rfl⟩ := h2
  rw [e1] at e2
  simp only [List.cons.injEq, A.int.injEq, A.bool.injEq, A.agg.injEq, A.row.injEq, pv_inj, kv_inj, true_and, and_true] at e2
  obtain ⟨e3, e4⟩ := e2
  subst e3 e4
  rfl
end Go.Proofs.Yticgaflgbljhlaa.Ab
