/- Walks of functions of the program: what each answers, for all arguments that meet its conditions. -/
import Derived.Test.YtimgfinlbhodhaaAbSums
import Derived.Test.YtimgfinlbhodhaaFwGc
import Derived.Test.YtimgfinlbhodhaaFwGf
import Derived.Test.YtimgfinlbhodhaaFwGa
namespace Go.Proofs.Ytimgfinlbhodhaa.Ab
open Go
set_option linter.unusedVariables false
set_option linter.unusedSimpArgs false
set_option maxHeartbeats 4000000
theorem ok_stepsOf : Kn.ok Try.prog (kof [(97, q_implIsStream), (131, q_implWrap)]) := kof_cons k_implIsStream (kof_cons k_implWrap ((kof_nil _)))
theorem stepsOf_ac (rs : List Int) (hc1 : strOk rs = true) : AC Try.prog 55 [.row false 1 (rs.map iv)] (.row true 1 ((stepsL rs rs.length).map iv)) := by
  have e_implIsStream := e_implIsStream
  have e_implWrap := e_implWrap
  have hl4 := strOk_len2 hc1
  have hl5 : rs.length < 17592186044416 := by omega
  have hts : ∀ x ∈ rs, -999999 ≤ x ∧ x ≤ 999999 := fun x hx => by
    have h := hc1
    simp only [strOk, Bool.and_eq_true, List.all_eq_true] at h
    exact tok_iff.1 (h.1 x hx)
  have htk : ∀ {j : Nat}, j < rs.length → _ := fun {j} h => getD_tok hts h
  clear hts
  refine AC.of tab_ok Try.func55 rfl (Nat.le_of_ble_eq_true rfl) fun w0 S0 => ?_
  change G _ _ ⟨[(0, .row false 1 (rs.map iv))], [], 27⟩
  apply G.seq
  refine G.rg tab_ok ok_stepsOf (hk := ?_)
  apply G.seq
  apply G.seq
  refine G.rg tab_ok ok_stepsOf (hk := ?_)
  refine G.iffF (h2 := ?_)
  apply G.skip
  apply G.seq
  refine G.rg tab_ok ok_stepsOf (hk := ?_)
  apply G.seq
  apply G.seq
  refine G.rg tab_ok ok_stepsOf (hk := ?_)
  apply G.block
  refine G.nm [3, 4, 11, 12, 13] (h := ?_)
  refine G.loopX (fun j : Nat => ⟨[(3, .sl 0 0 (stepsL rs j).length), (4, .int .i64 (lastA rs j)), (11, .row false 1 (rs.map iv)), (12, .int .i64 rs.length), (13, .int .i64 j)], [some (1, (stepsL rs j).map iv)], 27⟩) (fun j => j ≤ rs.length) (fun j => rs.length - j) (0) (Nat.zero_le _) (by simp [stepsL, lastA]) ?_
  intro j hj J hJ
  have hw : IntKind.i64.wrap ((j : Int) + 1) = (j : Int) + 1 := wrap64 (by omega) (by omega)
  have hsl : (stepsL rs j).length ≤ 400 := by rw [stepsL_len]; omega
  have ht1 : List.take (stepsL rs j).length ((stepsL rs j).map iv) = (stepsL rs j).map iv := List.take_of_length_le (by simp)
  have hlb : -999999 ≤ lastA rs j ∧ lastA rs j ≤ 999999 := by
    cases j with
    | zero => exact ⟨by show (-999999 : Int) ≤ 0; omega, by show (0 : Int) ≤ 999999; omega⟩
    | succ j => exact htk (by omega)
  apply G.seq
  refine G.rg tab_ok ok_stepsOf (hk := ?_)
  apply G.seq
  refine G.iff (h1 := fun h2 => ?_) (h2 := fun h2 => ?_)
  · try simp only [zz, bne_iff_ne, beq_iff_eq, bne_eq_false_iff_eq, beq_eq_false_iff_ne, ne_eq, gt_iff_lt, ge_iff_le] at h2
    apply G.skip
    apply G.seq
    apply G.block
    apply G.seq
    refine G.rg tab_ok ok_stepsOf (hk := ?_)
    apply G.seq
    have hjt := htk h2
    have hw2 : IntKind.i64.wrap (rs.getD j default - lastA rs j) = rs.getD j default - lastA rs j := wrap64 (by omega) (by omega)
    have hb1 : (((stepsL rs j).length + 1 : Nat) : Int) ≤ 4611686018427387904 := by omega
    have hb2 : ((stepsL rs j).length + 1) * 8 ≤ 70368744177664 := by omega
    refine G.rg tab_ok ok_stepsOf (hk := ?_)
    refine G.rg tab_ok ok_stepsOf (hk := ?_)
    apply G.blk
    refine G.rg tab_ok ok_stepsOf (hk := ?_)
    refine G.nm [3, 4, 11, 12, 13] (h := ?_)
    exact G.upto (hJ (j + 1) (by omega) (by omega)) (by simp [stepsL, lastA, iv])
  · try simp only [zz, bne_iff_ne, beq_iff_eq, bne_eq_false_iff_eq, beq_eq_false_iff_ne, ne_eq, gt_iff_lt, ge_iff_le] at h2
    refine G.exit rfl ?_
    apply G.seq
    refine G.rg tab_ok ok_stepsOf (hk := ?_)
    refine G.fin tab_ok (hr := ?_)
    obtain rfl : j = rs.length := by omega
    rfl
def r_stepsOf (xs0 : List A) (rr : A) : Prop := ∃ (rs : List Int), (strOk rs = true) ∧ xs0 = [.row false 1 (rs.map iv)] ∧ rr = .row true 1 ((stepsL rs rs.length).map iv)
noncomputable def q_stepsOf : List A → Option A := kgr r_stepsOf
theorem k_stepsOf : KOk Try.prog (55, q_stepsOf) := kgr_ok (enters_of Try.func55 rfl rfl) (by rintro xs0 rr ⟨rs, hc1, rfl, rfl⟩; exact stepsOf_ac rs hc1)
theorem e_stepsOf : ∀ (rs : List Int), (strOk rs = true) → q_stepsOf [.row false 1 (rs.map iv)] = some (.row true 1 ((stepsL rs rs.length).map iv)) := by
  intro rs hc1
  refine kgr_eq (fun xs0 rr r2 h h2 => ?_) ⟨rs, hc1, rfl, rfl⟩
  obtain ⟨rs1, _, e1, rfl⟩ := h; obtain ⟨rs2, _, e2, rfl⟩ := h2
  rw [e1] at e2
  simp only [List.cons.injEq, A.int.injEq, A.bool.injEq, A.agg.injEq, A.row.injEq, A.fn.injEq, A.rp.injEq, insv_inj, iv_inj, true_and, and_true] at e2
  simp [e2]
theorem ok_sumsOf : Kn.ok Try.prog (kof [(97, q_implIsStream), (131, q_implWrap)]) := kof_cons k_implIsStream (kof_cons k_implWrap ((kof_nil _)))
theorem sumsOf_ac (rs : List Int) (hc1 : strOk rs = true) : AC Try.prog 54 [.row false 1 (rs.map iv)] (.row true 1 ((sumsL rs rs.length).1.map iv)) := by
  have e_implIsStream := e_implIsStream
  have e_implWrap := e_implWrap
  have hl4 := strOk_len2 hc1
  have hl5 : rs.length < 17592186044416 := by omega
  have hts : ∀ x ∈ rs, -999999 ≤ x ∧ x ≤ 999999 := fun x hx => by
    have h := hc1
    simp only [strOk, Bool.and_eq_true, List.all_eq_true] at h
    exact tok_iff.1 (h.1 x hx)
  have htk : ∀ {j : Nat}, j < rs.length → _ := fun {j} h => getD_tok hts h
  clear hts
  refine AC.of tab_ok Try.func54 rfl (Nat.le_of_ble_eq_true rfl) fun w0 S0 => ?_
  change G _ _ ⟨[(0, .row false 1 (rs.map iv))], [], 27⟩
  apply G.seq
  refine G.rg tab_ok ok_sumsOf (hk := ?_)
  apply G.seq
  apply G.seq
  refine G.rg tab_ok ok_sumsOf (hk := ?_)
  refine G.iffF (h2 := ?_)
  apply G.skip
  apply G.seq
  refine G.rg tab_ok ok_sumsOf (hk := ?_)
  apply G.seq
  apply G.seq
  refine G.rg tab_ok ok_sumsOf (hk := ?_)
  apply G.block
  refine G.nm [3, 4, 11, 12, 13] (h := ?_)
  refine G.loopX (fun j : Nat => ⟨[(3, .sl 0 0 (sumsL rs j).1.length), (4, .int .i64 (sumsL rs j).2), (11, .row false 1 (rs.map iv)), (12, .int .i64 rs.length), (13, .int .i64 j)], [some (1, (sumsL rs j).1.map iv)], 27⟩) (fun j => j ≤ rs.length) (fun j => rs.length - j) (0) (Nat.zero_le _) (by simp [sumsL]) ?_
  intro j hj J hJ
  have hw : IntKind.i64.wrap ((j : Int) + 1) = (j : Int) + 1 := wrap64 (by omega) (by omega)
  have hsl : (sumsL rs j).1.length ≤ 400 := by rw [sumsL_len]; omega
  have ht1 : List.take ((sumsL rs j).1).length (((sumsL rs j).1).map iv) = ((sumsL rs j).1).map iv := List.take_of_length_le (by simp)
  have hlb := (sumsL_ok rs j).2
  apply G.seq
  refine G.rg tab_ok ok_sumsOf (hk := ?_)
  apply G.seq
  refine G.iff (h1 := fun h2 => ?_) (h2 := fun h2 => ?_)
  · try simp only [zz, bne_iff_ne, beq_iff_eq, bne_eq_false_iff_eq, beq_eq_false_iff_ne, ne_eq, gt_iff_lt, ge_iff_le] at h2
    apply G.skip
    apply G.seq
    apply G.block
    apply G.seq
    refine G.rg tab_ok ok_sumsOf (hk := ?_)
    apply G.seq
    have hjt := htk h2
    have hw2 : IntKind.i64.wrap ((sumsL rs j).2 + rs.getD j default) = (sumsL rs j).2 + rs.getD j default := wrap64 (by omega) (by omega)
    have hb1 : (((sumsL rs j).1.length + 1 : Nat) : Int) ≤ 4611686018427387904 := by omega
    have hb2 : ((sumsL rs j).1.length + 1) * 8 ≤ 70368744177664 := by omega
    refine G.rg tab_ok ok_sumsOf (hk := ?_)
    refine G.rg tab_ok ok_sumsOf (hk := ?_)
    apply G.blk
    refine G.rg tab_ok ok_sumsOf (hk := ?_)
    refine G.nm [3, 4, 11, 12, 13] (h := ?_)
    exact G.upto (hJ (j + 1) (by omega) (by omega)) (by simp [sumsL, iv])
  · try simp only [zz, bne_iff_ne, beq_iff_eq, bne_eq_false_iff_eq, beq_eq_false_iff_ne, ne_eq, gt_iff_lt, ge_iff_le] at h2
    refine G.exit rfl ?_
    apply G.seq
    refine G.rg tab_ok ok_sumsOf (hk := ?_)
    refine G.fin tab_ok (hr := ?_)
    obtain rfl : j = rs.length := by omega
    rfl
def r_sumsOf (xs0 : List A) (rr : A) : Prop := ∃ (rs : List Int), (strOk rs = true) ∧ xs0 = [.row false 1 (rs.map iv)] ∧ rr = .row true 1 ((sumsL rs rs.length).1.map iv)
noncomputable def q_sumsOf : List A → Option A := kgr r_sumsOf
theorem k_sumsOf : KOk Try.prog (54, q_sumsOf) := kgr_ok (enters_of Try.func54 rfl rfl) (by rintro xs0 rr ⟨rs, hc1, rfl, rfl⟩; exact sumsOf_ac rs hc1)
theorem e_sumsOf : ∀ (rs : List Int), (strOk rs = true) → q_sumsOf [.row false 1 (rs.map iv)] = some (.row true 1 ((sumsL rs rs.length).1.map iv)) := by
  intro rs hc1
  refine kgr_eq (fun xs0 rr r2 h h2 => ?_) ⟨rs, hc1, rfl, rfl⟩
  obtain ⟨rs1, _, e1, rfl⟩ := h; obtain ⟨rs2, _, e2, rfl⟩ := h2
  rw [e1] at e2
  simp only [List.cons.injEq, A.int.injEq, A.bool.injEq, A.agg.injEq, A.row.injEq, A.fn.injEq, A.rp.injEq, insv_inj, iv_inj, true_and, and_true] at e2
  simp [e2]
end Go.Proofs.Ytimgfinlbhodhaa.Ab
