/- Walks of functions of the program: what each answers, for all arguments that meet its conditions; and the plain definitions that tell it. -/
import Derived.Test.YtimgfinlbhodhaaFwGd
import Derived.Test.YtimgfinlbhodhaaFwGe
import Derived.Test.YtimgfinlbhodhaaFwGa
import Derived.Test.YtimgfinlbhodhaaFwGc
import Derived.Test.YtimgfinlbhodhaaFwGf
namespace Go.Proofs.Ytimgfinlbhodhaa.Ab
open Go
set_option linter.unusedVariables false
set_option linter.unusedSimpArgs false
set_option maxHeartbeats 4000000
theorem eqSl_ac (a : List Int) (b : List Int) (hc1 : a.length < 17592186044416) (hc2 : b.length < 17592186044416) : AC Try.prog 142 [.row false 1 (a.map iv), .row false 1 (b.map iv)] (.bool (decide (a = b))) := by
  refine AC.of tab_ok Try.func142 rfl (Nat.le_of_ble_eq_true rfl) fun w0 S0 => ?_
  change G _ _ ⟨[(0, .row false 1 (a.map iv)), (1, .row false 1 (b.map iv))], [], 26⟩
  apply G.seq
  refine G.rg tab_ok (kof_nil _) (hk := ?_)
  apply G.seq
  apply G.seq
  refine G.rg tab_ok (kof_nil _) (hk := ?_)
  refine G.iff (h1 := fun h1 => ?_) (h2 := fun h1 => ?_)
  · try simp only [zz, bne_iff_ne, beq_iff_eq, bne_eq_false_iff_eq, beq_eq_false_iff_ne, ne_eq, gt_iff_lt, ge_iff_le] at h1
    apply G.seq
    refine G.rg tab_ok (kof_nil _) (hk := ?_)
    refine G.fin tab_ok (hr := ?_)
    simp only [oneOrTup]
    congr 1
    symm
    rw [decide_eq_false_iff_not]
    intro e
    subst e
    exact h1 rfl
  · try simp only [zz, bne_iff_ne, beq_iff_eq, bne_eq_false_iff_eq, beq_eq_false_iff_ne, ne_eq, gt_iff_lt, ge_iff_le] at h1
    apply G.skip
    apply G.seq
    apply G.seq
    have hle1 : a.length ≤ b.length := by omega
    have hle2 : b.length ≤ a.length := by omega
    clear h1
    refine G.rg tab_ok (kof_nil _) (hk := ?_)
    apply G.block
    refine G.cn [0, 1, 12, 13] [] (h := ?_)
    refine G.loopX (fun j : Nat => ⟨[(0, .row false 1 (a.map iv)), (1, .row false 1 (b.map iv)), (12, .int .i64 a.length), (13, .int .i64 j)], [], 26⟩) (fun j => j ≤ a.length ∧ ∀ k < j, a.getD k default = b.getD k default) (fun j => a.length - j) (0) (⟨Nat.zero_le _, by omega⟩) (by simp) ?_
    intro j hj J hJ
    obtain ⟨hj, hall⟩ := hj
    have hw : IntKind.i64.wrap ((j : Int) + 1) = (j : Int) + 1 := wrap64 (by omega) (by omega)
    apply G.seq
    refine G.rg tab_ok (kof_nil _) (hk := ?_)
    apply G.seq
    refine G.iff (h1 := fun h2 => ?_) (h2 := fun h2 => ?_)
    · try simp only [zz, bne_iff_ne, beq_iff_eq, bne_eq_false_iff_eq, beq_eq_false_iff_ne, ne_eq, gt_iff_lt, ge_iff_le] at h2
      apply G.skip
      apply G.seq
      apply G.block
      apply G.seq
      refine G.rg tab_ok (kof_nil _) (hk := ?_)
      apply G.seq
      have hjb : j < b.length := by omega
      have hja : j < a.length := by omega
      refine G.dr mixed tab_ok (kof_nil _) [0, 1, 2, 3, 4, 5, 6, 7, 8] (hk := ?_)
      refine G.fg [0, 1, 12, 13, 24] (hk := ?_)
      refine G.iff (h1 := fun h3 => ?_) (h2 := fun h3 => ?_)
      · try simp only [zz, bne_iff_ne, beq_iff_eq, bne_eq_false_iff_eq, beq_eq_false_iff_ne, ne_eq, gt_iff_lt, ge_iff_le] at h3
        apply G.seq
        refine G.rg tab_ok (kof_nil _) (hk := ?_)
        refine G.fin tab_ok (hr := ?_)
        simp only [oneOrTup]
        congr 1
        symm
        rw [decide_eq_false_iff_not]
        intro e
        subst e
        exact h3 rfl
      · try simp only [zz, bne_iff_ne, beq_iff_eq, bne_eq_false_iff_eq, beq_eq_false_iff_ne, ne_eq, gt_iff_lt, ge_iff_le] at h3
        apply G.skip
        apply G.blk
        refine G.rg tab_ok (kof_nil _) (hk := ?_)
        refine G.cn [0, 1, 12, 13] [] (h := ?_)
        exact G.upto (hJ (j + 1) ⟨by omega, geq_upto hall h3⟩ (by omega)) (by simp)
    · try simp only [zz, bne_iff_ne, beq_iff_eq, bne_eq_false_iff_eq, beq_eq_false_iff_ne, ne_eq, gt_iff_lt, ge_iff_le] at h2
      refine G.exit rfl ?_
      apply G.seq
      refine G.rg tab_ok (kof_nil _) (hk := ?_)
      refine G.fin tab_ok (hr := ?_)
      simp only [oneOrTup]
      congr 1
      symm
      rw [decide_eq_true_eq]
      exact geq_all (by omega) (fun k hk => hall k (by omega))
def r_eqSl (xs0 : List A) (rr : A) : Prop := ∃ (a : List Int) (b : List Int), (a.length < 17592186044416) ∧ (b.length < 17592186044416) ∧ xs0 = [.row false 1 (a.map iv), .row false 1 (b.map iv)] ∧ rr = .bool (decide (a = b))
noncomputable def q_eqSl : List A → Option A := kgr r_eqSl
theorem k_eqSl : KOk Try.prog (142, q_eqSl) := kgr_ok (enters_of Try.func142 rfl rfl) (by rintro xs0 rr ⟨a, b, hc1, hc2, rfl, rfl⟩; exact eqSl_ac a b hc1 hc2)
theorem e_eqSl : ∀ (a : List Int) (b : List Int), (a.length < 17592186044416) → (b.length < 17592186044416) → q_eqSl [.row false 1 (a.map iv), .row false 1 (b.map iv)] = some (.bool (decide (a = b))) := by
  intro a b hc1 hc2
  refine kgr_eq (fun xs0 rr r2 h h2 => ?_) ⟨a, b, hc1, hc2, rfl, rfl⟩
  obtain ⟨a1, b1, _, _, e1, rfl⟩ := h; obtain ⟨a2, b2, _, _, e2, rfl⟩ := h2
  rw [e1] at e2
  simp only [List.cons.injEq, A.int.injEq, A.bool.injEq, A.agg.injEq, A.row.injEq, A.fn.injEq, A.rp.injEq, insv_inj, iv_inj, true_and, and_true] at e2
  simp [e2]
theorem l1Begins_ac (a : List Int) (b : List Int) (hc1 : a.length < 17592186044416) (hc2 : b.length < 17592186044416) : AC Try.prog 76 [.row false 1 (a.map iv), .row false 1 (b.map iv)] (.bool (begB a b)) := by
  refine AC.of tab_ok Try.func76 rfl (Nat.le_of_ble_eq_true rfl) fun w0 S0 => ?_
  change G _ _ ⟨[(0, .row false 1 (a.map iv)), (1, .row false 1 (b.map iv))], [], 26⟩
  apply G.seq
  refine G.rg tab_ok (kof_nil _) (hk := ?_)
  apply G.seq
  apply G.seq
  refine G.rg tab_ok (kof_nil _) (hk := ?_)
  refine G.iff (h1 := fun h1 => ?_) (h2 := fun h1 => ?_)
  · try simp only [zz, bne_iff_ne, beq_iff_eq, bne_eq_false_iff_eq, beq_eq_false_iff_ne, ne_eq, gt_iff_lt, ge_iff_le] at h1
    apply G.seq
    refine G.rg tab_ok (kof_nil _) (hk := ?_)
    refine G.fin tab_ok (hr := ?_)
    simp only [oneOrTup]
    congr 1
    exact (begB_long (by omega)).symm
  · try simp only [zz, bne_iff_ne, beq_iff_eq, bne_eq_false_iff_eq, beq_eq_false_iff_ne, ne_eq, gt_iff_lt, ge_iff_le] at h1
    apply G.skip
    apply G.seq
    apply G.seq
    refine G.rg tab_ok (kof_nil _) (hk := ?_)
    apply G.block
    have hlab : a.length ≤ b.length := by omega
    refine G.cn [1, 12, 13, 14] [] (h := ?_)
    refine G.loopX (fun j : Nat => ⟨[(1, .row false 1 (b.map iv)), (12, .row false 1 (a.map iv)), (13, .int .i64 a.length), (14, .int .i64 j)], [], 26⟩) (fun j => j ≤ a.length ∧ ∀ k < j, b.getD k default = a.getD k default) (fun j => a.length - j) (0) (⟨Nat.zero_le _, by omega⟩) (by simp) ?_
    intro j hj J hJ
    obtain ⟨hj, hall⟩ := hj
    have hw : IntKind.i64.wrap ((j : Int) + 1) = (j : Int) + 1 := wrap64 (by omega) (by omega)
    apply G.seq
    refine G.rg tab_ok (kof_nil _) (hk := ?_)
    apply G.seq
    refine G.iff (h1 := fun h2 => ?_) (h2 := fun h2 => ?_)
    · try simp only [zz, bne_iff_ne, beq_iff_eq, bne_eq_false_iff_eq, beq_eq_false_iff_ne, ne_eq, gt_iff_lt, ge_iff_le] at h2
      apply G.skip
      apply G.seq
      apply G.block
      apply G.seq
      refine G.rg tab_ok (kof_nil _) (hk := ?_)
      apply G.seq
      have hjb : j < b.length := by omega
      refine G.rg tab_ok (kof_nil _) (hk := ?_)
      refine G.fg [1, 12, 13, 14, 24] (hk := ?_)
      refine G.iff (h1 := fun h3 => ?_) (h2 := fun h3 => ?_)
      · try simp only [zz, bne_iff_ne, beq_iff_eq, bne_eq_false_iff_eq, beq_eq_false_iff_ne, ne_eq, gt_iff_lt, ge_iff_le] at h3
        apply G.seq
        refine G.rg tab_ok (kof_nil _) (hk := ?_)
        refine G.fin tab_ok (hr := ?_)
        simp only [oneOrTup]
        congr 1
        exact (begB_no (by omega) h3).symm
      · try simp only [zz, bne_iff_ne, beq_iff_eq, bne_eq_false_iff_eq, beq_eq_false_iff_ne, ne_eq, gt_iff_lt, ge_iff_le] at h3
        apply G.skip
        apply G.blk
        refine G.rg tab_ok (kof_nil _) (hk := ?_)
        refine G.cn [1, 12, 13, 14] [] (h := ?_)
        exact G.upto (hJ (j + 1) ⟨by omega, up_step hall h3⟩ (by omega)) (by simp)
    · try simp only [zz, bne_iff_ne, beq_iff_eq, bne_eq_false_iff_eq, beq_eq_false_iff_ne, ne_eq, gt_iff_lt, ge_iff_le] at h2
      refine G.exit rfl ?_
      apply G.seq
      refine G.rg tab_ok (kof_nil _) (hk := ?_)
      refine G.fin tab_ok (hr := ?_)
      simp only [oneOrTup]
      congr 1
      exact (begB_yes hlab (fun k hk => hall k (by omega))).symm
def r_l1Begins (xs0 : List A) (rr : A) : Prop := ∃ (a : List Int) (b : List Int), (a.length < 17592186044416) ∧ (b.length < 17592186044416) ∧ xs0 = [.row false 1 (a.map iv), .row false 1 (b.map iv)] ∧ rr = .bool (begB a b)
noncomputable def q_l1Begins : List A → Option A := kgr r_l1Begins
theorem k_l1Begins : KOk Try.prog (76, q_l1Begins) := kgr_ok (enters_of Try.func76 rfl rfl) (by rintro xs0 rr ⟨a, b, hc1, hc2, rfl, rfl⟩; exact l1Begins_ac a b hc1 hc2)
theorem e_l1Begins : ∀ (a : List Int) (b : List Int), (a.length < 17592186044416) → (b.length < 17592186044416) → q_l1Begins [.row false 1 (a.map iv), .row false 1 (b.map iv)] = some (.bool (begB a b)) := by
  intro a b hc1 hc2
  refine kgr_eq (fun xs0 rr r2 h h2 => ?_) ⟨a, b, hc1, hc2, rfl, rfl⟩
  obtain ⟨a1, b1, _, _, e1, rfl⟩ := h; obtain ⟨a2, b2, _, _, e2, rfl⟩ := h2
  rw [e1] at e2
  simp only [List.cons.injEq, A.int.injEq, A.bool.injEq, A.agg.injEq, A.row.injEq, A.fn.injEq, A.rp.injEq, insv_inj, iv_inj, true_and, and_true] at e2
  simp [e2]
theorem ok_implIsPrefix : Kn.ok Try.prog (kof [(97, q_implIsStream), (142, q_eqSl)]) := kof_cons k_implIsStream (kof_cons k_eqSl ((kof_nil _)))
theorem implIsPrefix_ac (a : List Int) (b : List Int) (hc1 : a.length < 17592186044416) (hc2 : b.length < 17592186044416) : AC Try.prog 136 [.row false 1 (a.map iv), .row false 1 (b.map iv)] (.bool (pfxB a b)) := by
  have e_implIsStream := e_implIsStream
  have e_eqSl := e_eqSl
  have hft : (false == true) = false := rfl
  have htf : (true == false) = false := rfl
  refine AC.of tab_ok Try.func136 rfl (Nat.le_of_ble_eq_true rfl) fun w0 S0 => ?_
  change G _ _ ⟨[(0, .row false 1 (a.map iv)), (1, .row false 1 (b.map iv))], [], 26⟩
  apply G.seq
  refine G.rg tab_ok ok_implIsPrefix (hk := ?_)
  apply G.seq
  rcases (show strOk a = false ∨ (strOk a = true ∧ strOk b = false) ∨ (strOk a = true ∧ strOk b = true ∧ ¬ (a.length : Int) ≤ (b.length : Int)) ∨ (strOk a = true ∧ strOk b = true ∧ (a.length : Int) ≤ (b.length : Int)) by cases strOk a <;> cases strOk b <;> simp; omega) with c1 | ⟨c1, c2⟩ | ⟨c1, c2, c3⟩ | ⟨c1, c2, c3⟩
  · skip
    refine G.rgN 3 tab_ok ok_implIsPrefix (hk := ?_)
    refine G.rdC tab_ok ok_implIsPrefix (hk := ?_)
    refine G.fin tab_ok (hr := ?_)
    simp only [oneOrTup, pfxB, c1, Bool.false_and]
  · skip
    refine G.rgN 3 tab_ok ok_implIsPrefix (hk := ?_)
    refine G.rdC tab_ok ok_implIsPrefix (hk := ?_)
    refine G.fin tab_ok (hr := ?_)
    simp only [oneOrTup, pfxB, c2, Bool.false_and, Bool.and_false]
  · skip
    refine G.rgN 3 tab_ok ok_implIsPrefix (hk := ?_)
    refine G.rdC tab_ok ok_implIsPrefix (hk := ?_)
    refine G.fin tab_ok (hr := ?_)
    simp only [oneOrTup, pfxB, begB_long (a := a) (b := b) (by omega), Bool.and_false]
  · skip
    have c4 : a.length ≤ b.length := by omega
    have hmin : min a.length b.length = a.length := by omega
    have htk : List.take a.length (b.map iv) = (b.take a.length).map iv := (List.map_take ..).symm
    have hlt : (b.take a.length).length < 17592186044416 := by rw [List.length_take]; omega
    refine G.rgN 3 tab_ok ok_implIsPrefix (hk := ?_)
    refine G.rdC tab_ok ok_implIsPrefix (hk := ?_)
    refine G.fin tab_ok (hr := ?_)
    simp only [oneOrTup]
    congr 1
    rw [pfxB_cmp c1 c2 c4]
def r_implIsPrefix (xs0 : List A) (rr : A) : Prop := ∃ (a : List Int) (b : List Int), (a.length < 17592186044416) ∧ (b.length < 17592186044416) ∧ xs0 = [.row false 1 (a.map iv), .row false 1 (b.map iv)] ∧ rr = .bool (pfxB a b)
noncomputable def q_implIsPrefix : List A → Option A := kgr r_implIsPrefix
theorem k_implIsPrefix : KOk Try.prog (136, q_implIsPrefix) := kgr_ok (enters_of Try.func136 rfl rfl) (by rintro xs0 rr ⟨a, b, hc1, hc2, rfl, rfl⟩; exact implIsPrefix_ac a b hc1 hc2)
theorem e_implIsPrefix : ∀ (a : List Int) (b : List Int), (a.length < 17592186044416) → (b.length < 17592186044416) → q_implIsPrefix [.row false 1 (a.map iv), .row false 1 (b.map iv)] = some (.bool (pfxB a b)) := by
  intro a b hc1 hc2
  refine kgr_eq (fun xs0 rr r2 h h2 => ?_) ⟨a, b, hc1, hc2, rfl, rfl⟩
  obtain ⟨a1, b1, _, _, e1, rfl⟩ := h; obtain ⟨a2, b2, _, _, e2, rfl⟩ := h2
  rw [e1] at e2
  simp only [List.cons.injEq, A.int.injEq, A.bool.injEq, A.agg.injEq, A.row.injEq, A.fn.injEq, A.rp.injEq, insv_inj, iv_inj, true_and, and_true] at e2
  simp [e2]
end Go.Proofs.Ytimgfinlbhodhaa.Ab

namespace Go.Proofs.Ytimgfinlbhodhaa.Ab
open Go
set_option linter.unusedVariables false
set_option linter.unusedSimpArgs false
set_option maxHeartbeats 4000000
theorem ok_areHist1 : Kn.ok Try.prog (kof [(97, q_implIsStream)]) := kof_cons k_implIsStream ((kof_nil _))
theorem areHist1_ac (r : List Int) (hc1 : r.length < 17592186044416) : AC Try.prog 179 [.row false 1 (r.map iv)] (.bool (!(strOk r))) := by
  have e_implIsStream := e_implIsStream
  refine AC.of tab_ok Try.func179 rfl (Nat.le_of_ble_eq_true rfl) fun w0 S0 => ?_
  change G _ _ ⟨[(0, .row false 1 (r.map iv))], [], 6⟩
  apply G.seq
  refine G.rg tab_ok ok_areHist1 (hk := ?_)
  apply G.seq
  refine G.rg tab_ok ok_areHist1 (hk := ?_)
  refine G.fin tab_ok (hr := ?_)
  rfl
def r_areHist1 (xs0 : List A) (rr : A) : Prop := ∃ (r : List Int), (r.length < 17592186044416) ∧ xs0 = [.row false 1 (r.map iv)] ∧ rr = .bool (!(strOk r))
noncomputable def q_areHist1 : List A → Option A := kgr r_areHist1
theorem k_areHist1 : KOk Try.prog (179, q_areHist1) := kgr_ok (enters_of Try.func179 rfl rfl) (by rintro xs0 rr ⟨r, hc1, rfl, rfl⟩; exact areHist1_ac r hc1)
theorem e_areHist1 : ∀ (r : List Int), (r.length < 17592186044416) → q_areHist1 [.row false 1 (r.map iv)] = some (.bool (!(strOk r))) := by
  intro r hc1
  refine kgr_eq (fun xs0 rr r2 h h2 => ?_) ⟨r, hc1, rfl, rfl⟩
  obtain ⟨r1, _, e1, rfl⟩ := h; obtain ⟨r2, _, e2, rfl⟩ := h2
  rw [e1] at e2
  simp only [List.cons.injEq, A.int.injEq, A.bool.injEq, A.agg.injEq, A.row.injEq, A.fn.injEq, A.rp.injEq, insv_inj, iv_inj, true_and, and_true] at e2
  simp [e2]
theorem ok_indexStrA : Kn.ok Try.prog (kof [(179, q_areHist1)]) := kof_cons k_areHist1 ((kof_nil _))
theorem indexStrA_ac (hs : List (List Int)) (hc1 : hs.length < 5864062014805) (hc2 : LW hs) : AC Try.prog 161 [.row false 1 (hs.map ivL), .fn 179 []] (.int .i64 (gidx (fun x => !(strOk x)) hs)) := by
  have e_areHist1 := e_areHist1
  have hivl := ivL_eq
  refine AC.of tab_ok Try.func161 rfl (Nat.le_of_ble_eq_true rfl) fun w0 S0 => ?_
  change G _ _ ⟨[(0, .row false 1 (hs.map ivL)), (1, .fn 179 [])], [], 19⟩
  apply G.seq
  refine G.rg tab_ok ok_indexStrA (hk := ?_)
  apply G.seq
  apply G.seq
  refine G.rg tab_ok ok_indexStrA (hk := ?_)
  apply G.block
  refine G.cn [0, 1, 7, 8] [] (h := ?_)
  refine G.loopX (fun j : Nat => ⟨[(0, .row false 1 (hs.map ivL)), (1, .fn 179 []), (7, .int .i64 hs.length), (8, .int .i64 j)], [], 19⟩) (fun j => j ≤ hs.length ∧ ∀ k < j, (fun x => !(strOk x)) (hs.getD k default) = false) (fun j => hs.length - j) (0) (⟨Nat.zero_le _, by omega⟩) (by simp) ?_
  intro j hj J hJ
  obtain ⟨hj, hall⟩ := hj
  have hw : IntKind.i64.wrap ((j : Int) + 1) = (j : Int) + 1 := wrap64 (by omega) (by omega)
  apply G.seq
  refine G.rg tab_ok ok_indexStrA (hk := ?_)
  apply G.seq
  refine G.iff (h1 := fun h1 => ?_) (h2 := fun h1 => ?_)
  · try simp only [zz, bne_iff_ne, beq_iff_eq, bne_eq_false_iff_eq, beq_eq_false_iff_ne, ne_eq, gt_iff_lt, ge_iff_le] at h1
    apply G.skip
    apply G.seq
    apply G.block
    apply G.seq
    refine G.rg tab_ok ok_indexStrA (hk := ?_)
    apply G.seq
    have hlr : (hs.getD j default).length < 17592186044416 := hc2 _ (getD_mem0 h1)
    refine G.rg tab_ok ok_indexStrA (hk := ?_)
    refine G.fg [0, 1, 5, 7, 8, 16] (hk := ?_)
    refine G.iff (h1 := fun h2 => ?_) (h2 := fun h2 => ?_)
    · try simp only [zz, bne_iff_ne, beq_iff_eq, bne_eq_false_iff_eq, beq_eq_false_iff_ne, ne_eq, gt_iff_lt, ge_iff_le] at h2
      apply G.seq
      refine G.rg tab_ok ok_indexStrA (hk := ?_)
      refine G.fin tab_ok (hr := ?_)
      simp only [oneOrTup]
      congr 1
      exact (gidx_some (p := fun x => !(strOk x)) h1 hall (by simp only [Bool.not_eq_true']; exact h2)).symm
    · try simp only [zz, bne_iff_ne, beq_iff_eq, bne_eq_false_iff_eq, beq_eq_false_iff_ne, ne_eq, gt_iff_lt, ge_iff_le] at h2
      apply G.skip
      apply G.blk
      refine G.rg tab_ok ok_indexStrA (hk := ?_)
      refine G.cn [0, 1, 7, 8] [] (h := ?_)
      exact G.upto (hJ (j + 1) ⟨by omega, gupto (p := fun x => !(strOk x)) hall (by simp only [Bool.not_eq_false']; exact h2)⟩ (by omega)) (by simp)
  · try simp only [zz, bne_iff_ne, beq_iff_eq, bne_eq_false_iff_eq, beq_eq_false_iff_ne, ne_eq, gt_iff_lt, ge_iff_le] at h1
    refine G.exit rfl ?_
    apply G.seq
    refine G.rg tab_ok ok_indexStrA (hk := ?_)
    refine G.fin tab_ok (hr := ?_)
    simp only [oneOrTup]
    congr 1
    exact (gidx_none (fun k hk => hall k (by omega))).symm
def r_indexStrA (xs0 : List A) (rr : A) : Prop := ∃ (hs : List (List Int)), (hs.length < 5864062014805) ∧ (LW hs) ∧ xs0 = [.row false 1 (hs.map ivL), .fn 179 []] ∧ rr = .int .i64 (gidx (fun x => !(strOk x)) hs)
noncomputable def q_indexStrA : List A → Option A := kgr r_indexStrA
theorem k_indexStrA : KOk Try.prog (161, q_indexStrA) := kgr_ok (enters_of Try.func161 rfl rfl) (by rintro xs0 rr ⟨hs, hc1, hc2, rfl, rfl⟩; exact indexStrA_ac hs hc1 hc2)
theorem e_indexStrA : ∀ (hs : List (List Int)), (hs.length < 5864062014805) → (LW hs) → q_indexStrA [.row false 1 (hs.map ivL), .fn 179 []] = some (.int .i64 (gidx (fun x => !(strOk x)) hs)) := by
  intro hs hc1 hc2
  refine kgr_eq (fun xs0 rr r2 h h2 => ?_) ⟨hs, hc1, hc2, rfl, rfl⟩
  obtain ⟨hs1, _, _, e1, rfl⟩ := h; obtain ⟨hs2, _, _, e2, rfl⟩ := h2
  rw [e1] at e2
  simp only [List.cons.injEq, A.int.injEq, A.agg.injEq, A.row.injEq, A.fn.injEq, pv_inj, kv_inj, ivL_inj, true_and, and_true] at e2
  simp [e2]
theorem ok_containsStrA : Kn.ok Try.prog (kof [(161, q_indexStrA)]) := kof_cons k_indexStrA ((kof_nil _))
theorem containsStrA_ac (hs : List (List Int)) (hc1 : hs.length < 5864062014805) (hc2 : LW hs) : AC Try.prog 95 [.row false 1 (hs.map ivL), .fn 179 []] (.bool (!(hs.all strOk))) := by
  have e_indexStrA := e_indexStrA
  refine AC.of tab_ok Try.func95 rfl (Nat.le_of_ble_eq_true rfl) fun w0 S0 => ?_
  change G _ _ ⟨[(0, .row false 1 (hs.map ivL)), (1, .fn 179 [])], [], 9⟩
  apply G.seq
  refine G.rg tab_ok ok_containsStrA (hk := ?_)
  apply G.seq
  refine G.rg tab_ok ok_containsStrA (hk := ?_)
  refine G.fin tab_ok (hr := ?_)
  simp only [oneOrTup]
  congr 1
  exact gidx_pos _ _
def r_containsStrA (xs0 : List A) (rr : A) : Prop := ∃ (hs : List (List Int)), (hs.length < 5864062014805) ∧ (LW hs) ∧ xs0 = [.row false 1 (hs.map ivL), .fn 179 []] ∧ rr = .bool (!(hs.all strOk))
noncomputable def q_containsStrA : List A → Option A := kgr r_containsStrA
theorem k_containsStrA : KOk Try.prog (95, q_containsStrA) := kgr_ok (enters_of Try.func95 rfl rfl) (by rintro xs0 rr ⟨hs, hc1, hc2, rfl, rfl⟩; exact containsStrA_ac hs hc1 hc2)
theorem e_containsStrA : ∀ (hs : List (List Int)), (hs.length < 5864062014805) → (LW hs) → q_containsStrA [.row false 1 (hs.map ivL), .fn 179 []] = some (.bool (!(hs.all strOk))) := by
  intro hs hc1 hc2
  refine kgr_eq (fun xs0 rr r2 h h2 => ?_) ⟨hs, hc1, hc2, rfl, rfl⟩
  obtain ⟨hs1, _, _, e1, rfl⟩ := h; obtain ⟨hs2, _, _, e2, rfl⟩ := h2
  rw [e1] at e2
  simp only [List.cons.injEq, A.int.injEq, A.agg.injEq, A.row.injEq, A.fn.injEq, pv_inj, kv_inj, ivL_inj, true_and, and_true] at e2
  simp [e2]
theorem ok_implAreHistories : Kn.ok Try.prog (kof [(70, q_implIsNetwork), (95, q_containsStrA)]) := kof_cons k_implIsNetwork (kof_cons k_containsStrA ((kof_nil _)))
theorem implAreHistories_ac (ps : List PG) (ks : List LK) (hs : List (List Int)) (hc1 : NW ps) (hc2 : KW ks) (hc3 : ps.length < 3518437208781) (hc4 : ks.length < 2513169434844) (hc5 : hs.length < 5864062014805) (hc6 : LW hs) : AC Try.prog 124 [.agg [.row false 3 (ps.map pv), .row false 5 (ks.map kv)], .row false 1 (hs.map ivL)] (.bool (histOk ps ks hs)) := by
  have e_implIsNetwork := e_implIsNetwork
  have e_containsStrA := e_containsStrA
  have hivl := ivL_eq
  refine AC.of tab_ok Try.func124 rfl (Nat.le_of_ble_eq_true rfl) fun w0 S0 => ?_
  change G _ _ ⟨[(0, .agg [.row false 3 (ps.map pv), .row false 5 (ks.map kv)]), (1, .row false 1 (hs.map ivL))], [], 20⟩
  apply G.seq
  refine G.rg tab_ok ok_implAreHistories (hk := ?_)
  apply G.seq
  refine G.rg tab_ok ok_implAreHistories (hk := ?_)
  refine G.fin tab_ok (hr := ?_)
  simp only [oneOrTup, histOk, Bool.not_not]
def r_implAreHistories (xs0 : List A) (rr : A) : Prop := ∃ (ps : List PG) (ks : List LK) (hs : List (List Int)), (NW ps) ∧ (KW ks) ∧ (ps.length < 3518437208781) ∧ (ks.length < 2513169434844) ∧ (hs.length < 5864062014805) ∧ (LW hs) ∧ xs0 = [.agg [.row false 3 (ps.map pv), .row false 5 (ks.map kv)], .row false 1 (hs.map ivL)] ∧ rr = .bool (histOk ps ks hs)
noncomputable def q_implAreHistories : List A → Option A := kgr r_implAreHistories
theorem k_implAreHistories : KOk Try.prog (124, q_implAreHistories) := kgr_ok (enters_of Try.func124 rfl rfl) (by rintro xs0 rr ⟨ps, ks, hs, hc1, hc2, hc3, hc4, hc5, hc6, rfl, rfl⟩; exact implAreHistories_ac ps ks hs hc1 hc2 hc3 hc4 hc5 hc6)
theorem e_implAreHistories : ∀ (ps : List PG) (ks : List LK) (hs : List (List Int)), (NW ps) → (KW ks) → (ps.length < 3518437208781) → (ks.length < 2513169434844) → (hs.length < 5864062014805) → (LW hs) → q_implAreHistories [.agg [.row false 3 (ps.map pv), .row false 5 (ks.map kv)], .row false 1 (hs.map ivL)] = some (.bool (histOk ps ks hs)) := by
  intro ps ks hs hc1 hc2 hc3 hc4 hc5 hc6
  refine kgr_eq (fun xs0 rr r2 h h2 => ?_) ⟨ps, ks, hs, hc1, hc2, hc3, hc4, hc5, hc6, rfl, rfl⟩
  obtain ⟨ps1, ks1, hs1, _, _, _, _, _, _, e1, rfl⟩ := h; obtain ⟨ps2, ks2, hs2, _, _, _, _, _, _, e2, rfl⟩ := h2
  rw [e1] at e2
  simp only [List.cons.injEq, A.int.injEq, A.agg.injEq, A.row.injEq, pv_inj, kv_inj, ivL_inj, true_and, and_true] at e2
  obtain ⟨⟨e3, e4⟩, e5⟩ := e2
  subst e3 e4 e5
  rfl
-- not in this seat: specAreHistories
end Go.Proofs.Ytimgfinlbhodhaa.Ab

namespace Go.Proofs.Ytimgfinlbhodhaa.Ab
open Go
set_option linter.unusedVariables false
set_option linter.unusedSimpArgs false
set_option maxHeartbeats 4000000
theorem cloneInstr_ac (l : List I4) (hc1 : l.length ≤ 1048576) : AC Try.prog 207 [.row false 4 (l.map insv)] (.row true 4 (l.map insv)) := by
  have hb1 : ((0 + l.length : Nat) : Int) ≤ 4611686018427387904 := by omega
  have hb2 : (0 + l.length) * 32 ≤ 70368744177664 := by omega
  have hb3 : (l.length : Int) ≤ 4611686018427387904 := by omega
  have hb4 : l.length * 32 ≤ 70368744177664 := by omega
  have hcpi := copyable_insv
  refine AC.of tab_ok Try.func207 rfl (Nat.le_of_ble_eq_true rfl) fun w0 S0 => ?_
  change G _ _ ⟨[(0, .row false 4 (l.map insv))], [], 8⟩
  apply G.seq
  refine G.rg tab_ok (kof_nil _) (hk := ?_)
  apply G.seq
  apply G.seq
  refine G.rgN 1 tab_ok (kof_nil _) (hk := ?_)
  refine G.opNil tab_ok rfl rfl rfl rfl rfl rfl rfl (h1 := fun hn => ?_) (h2 := ?_)
  · refine G.rgC tab_ok (kof_nil _) (hk := ?_)
    refine G.iffT (h1 := ?_)
    apply G.seq
    refine G.rg tab_ok (kof_nil _) (hk := ?_)
    have e : l = [] := by simpa using hn
    subst e
    refine G.nilRow 2 4 rfl ?_
    refine G.fin tab_ok (hr := ?_)
    rfl
  · refine G.rgC tab_ok (kof_nil _) (hk := ?_)
    refine G.iffF (h2 := ?_)
    apply G.skip
    apply G.seq
    refine G.rg tab_ok (kof_nil _) (hk := ?_)
    refine G.fin tab_ok (hr := ?_)
    rfl
def r_cloneInstr (xs0 : List A) (rr : A) : Prop := ∃ (l : List I4), (l.length ≤ 1048576) ∧ xs0 = [.row false 4 (l.map insv)] ∧ rr = .row true 4 (l.map insv)
noncomputable def q_cloneInstr : List A → Option A := kgr r_cloneInstr
theorem k_cloneInstr : KOk Try.prog (207, q_cloneInstr) := kgr_ok (enters_of Try.func207 rfl rfl) (by rintro xs0 rr ⟨l, hc1, rfl, rfl⟩; exact cloneInstr_ac l hc1)
theorem e_cloneInstr : ∀ (l : List I4), (l.length ≤ 1048576) → q_cloneInstr [.row false 4 (l.map insv)] = some (.row true 4 (l.map insv)) := by
  intro l hc1
  refine kgr_eq (fun xs0 rr r2 h h2 => ?_) ⟨l, hc1, rfl, rfl⟩
  obtain ⟨l1, _, e1, rfl⟩ := h; obtain ⟨l2, _, e2, rfl⟩ := h2
  rw [e1] at e2
  simp only [List.cons.injEq, A.int.injEq, A.bool.injEq, A.agg.injEq, A.row.injEq, A.fn.injEq, A.rp.injEq, insv_inj, iv_inj, true_and, and_true] at e2
  simp [e2]
theorem ok_copyProgram : Kn.ok Try.prog (kof [(207, q_cloneInstr)]) := kof_cons k_cloneInstr ((kof_nil _))
theorem copyProgram_ac (i : Int) (o : Int) (l : List I4) (hc1 : l.length ≤ 1048576) : AC Try.prog 181 [.agg [.int .i64 i, .int .i64 o, .row false 4 (l.map insv)]] (.agg [.int .i64 i, .int .i64 o, .row true 4 (l.map insv)]) := by
  have e_cloneInstr := e_cloneInstr
  refine AC.of tab_ok Try.func181 rfl (Nat.le_of_ble_eq_true rfl) fun w0 S0 => ?_
  change G _ _ ⟨[(0, .agg [.int .i64 i, .int .i64 o, .row false 4 (l.map insv)])], [], 8⟩
  apply G.seq
  refine G.rg tab_ok ok_copyProgram (hk := ?_)
  apply G.seq
  refine G.rg tab_ok ok_copyProgram (hk := ?_)
  apply G.seq
  refine G.rg tab_ok ok_copyProgram (hk := ?_)
  refine G.fin tab_ok (hr := ?_)
  rfl
def r_copyProgram (xs0 : List A) (rr : A) : Prop := ∃ (i : Int) (o : Int) (l : List I4), (l.length ≤ 1048576) ∧ xs0 = [.agg [.int .i64 i, .int .i64 o, .row false 4 (l.map insv)]] ∧ rr = .agg [.int .i64 i, .int .i64 o, .row true 4 (l.map insv)]
noncomputable def q_copyProgram : List A → Option A := kgr r_copyProgram
theorem k_copyProgram : KOk Try.prog (181, q_copyProgram) := kgr_ok (enters_of Try.func181 rfl rfl) (by rintro xs0 rr ⟨i, o, l, hc1, rfl, rfl⟩; exact copyProgram_ac i o l hc1)
theorem e_copyProgram : ∀ (i : Int) (o : Int) (l : List I4), (l.length ≤ 1048576) → q_copyProgram [.agg [.int .i64 i, .int .i64 o, .row false 4 (l.map insv)]] = some (.agg [.int .i64 i, .int .i64 o, .row true 4 (l.map insv)]) := by
  intro i o l hc1
  refine kgr_eq (fun xs0 rr r2 h h2 => ?_) ⟨i, o, l, hc1, rfl, rfl⟩
  obtain ⟨i1, o1, l1, _, e1, rfl⟩ := h; obtain ⟨i2, o2, l2, _, e2, rfl⟩ := h2
  rw [e1] at e2
  simp only [List.cons.injEq, A.int.injEq, A.bool.injEq, A.agg.injEq, A.row.injEq, A.fn.injEq, A.rp.injEq, insv_inj, iv_inj, true_and, and_true] at e2
  simp [e2]
end Go.Proofs.Ytimgfinlbhodhaa.Ab

namespace Go.Proofs.Ytimgfinlbhodhaa.Ab
open Go
set_option linter.unusedVariables false
set_option linter.unusedSimpArgs false
set_option maxHeartbeats 4000000
theorem ok_l4Tokens : Kn.ok Try.prog (kof [(154, q_l1Copy)]) := kof_cons k_l1Copy ((kof_nil _))
theorem l4Tokens_ac (ps : List PG) (ks : List LK) (hc1 : netOk ps ks = true) : AC Try.prog 89 [.agg [.row false 3 (ps.map pv), .row false 5 (ks.map kv)]] (.row true 1 ((tkL ks).map ovL)) := by
  have e_l1Copy := e_l1Copy
  have hivl := ivL_eq
  have hro := roLL_ovL
  have hpov := pureLL_ovL
  have hnov := noLoanLL_ovL
  have hsm := net_small hc1
  have hp12 := (netOk_w hc1).pl
  have hk30 := (netOk_w hc1).kl
  refine AC.of tab_ok Try.func89 rfl (Nat.le_of_ble_eq_true rfl) fun w0 S0 => ?_
  change G _ _ ⟨[(0, .agg [.row false 3 (ps.map pv), .row false 5 (ks.map kv)])], [], 22⟩
  apply G.seq
  refine G.rg tab_ok ok_l4Tokens (hk := ?_)
  apply G.seq
  refine G.rg tab_ok ok_l4Tokens (hk := ?_)
  apply G.seq
  apply G.seq
  refine G.rg tab_ok ok_l4Tokens (hk := ?_)
  apply G.block
  refine G.nm [3, 8, 9, 10] (h := ?_)
  refine G.loopX (fun j : Nat => ⟨[(3, .sl 0 0 j), (8, .row false 5 (ks.map kv)), (9, .int .i64 ks.length), (10, .int .i64 j)], [some (1, ((tkL ks).take j).map ovL)], 22⟩) (fun j => j ≤ ks.length) (fun j => ks.length - j) (0) (Nat.zero_le _) (by simp) ?_
  intro j hj J hJ
  have hw : IntKind.i64.wrap ((j : Int) + 1) = (j : Int) + 1 := wrap64 (by omega) (by omega)
  apply G.seq
  refine G.rg tab_ok ok_l4Tokens (hk := ?_)
  apply G.seq
  refine G.iff (h1 := fun h1 => ?_) (h2 := fun h1 => ?_)
  · try simp only [zz, bne_iff_ne, beq_iff_eq, bne_eq_false_iff_eq, beq_eq_false_iff_ne, ne_eq, gt_iff_lt, ge_iff_le] at h1
    apply G.skip
    apply G.seq
    apply G.block
    apply G.seq
    have hmj : min j (tkL ks).length = j := by rw [tkL_len]; omega
    have htk1 : List.take j (((tkL ks).take j).map ovL) = ((tkL ks).take j).map ovL := List.take_of_length_le (by simp; omega)
    have htj := tkL_snoc (ks := ks) (j := j) (by omega)
    have hlr : (ks.getD j default).tk.length ≤ 1048576 := by have := hsm.2 j (by omega); omega
    have hq1 : ((j + 1 : Nat) : Int) ≤ 4611686018427387904 := by omega
    have hq2 : (j + 1) * 24 ≤ 70368744177664 := by omega
    refine G.rg tab_ok ok_l4Tokens (hk := ?_)
    refine G.rg tab_ok ok_l4Tokens (hk := ?_)
    refine G.lastE 4 0 2 (f := ovL) (l := (tkL ks).take j) ((ks.getD j default).tk) rfl rfl rfl (by decide) (by simp) (pureLL_iv _) rfl ?_
    rw [htj]
    apply G.blk
    refine G.rg tab_ok ok_l4Tokens (hk := ?_)
    refine G.nm [3, 8, 9, 10] (h := ?_)
    exact G.upto (hJ (j + 1) (by omega) (by omega)) (by simp)
  · try simp only [zz, bne_iff_ne, beq_iff_eq, bne_eq_false_iff_eq, beq_eq_false_iff_ne, ne_eq, gt_iff_lt, ge_iff_le] at h1
    refine G.exit rfl ?_
    apply G.seq
    refine G.rg tab_ok ok_l4Tokens (hk := ?_)
    obtain rfl : j = ks.length := by omega
    have hft : List.take ks.length (tkL ks) = tkL ks := List.take_of_length_le (by rw [tkL_len]; exact Nat.le_refl _)
    have hft2 : List.take ks.length ((tkL ks).map ovL) = (tkL ks).map ovL := List.take_of_length_le (by simp [tkL_len])
    rw [hft]
    have hl1 : ks.length ≤ (tkL ks).length := by rw [tkL_len]; exact Nat.le_refl _
    refine G.fin tab_ok (hr := ?_)
    rfl
def r_l4Tokens (xs0 : List A) (rr : A) : Prop := ∃ (ps : List PG) (ks : List LK), (netOk ps ks = true) ∧ xs0 = [.agg [.row false 3 (ps.map pv), .row false 5 (ks.map kv)]] ∧ rr = .row true 1 ((tkL ks).map ovL)
noncomputable def q_l4Tokens : List A → Option A := kgr r_l4Tokens
theorem k_l4Tokens : KOk Try.prog (89, q_l4Tokens) := kgr_ok (enters_of Try.func89 rfl rfl) (by rintro xs0 rr ⟨ps, ks, hc1, rfl, rfl⟩; exact l4Tokens_ac ps ks hc1)
theorem e_l4Tokens : ∀ (ps : List PG) (ks : List LK), (netOk ps ks = true) → q_l4Tokens [.agg [.row false 3 (ps.map pv), .row false 5 (ks.map kv)]] = some (.row true 1 ((tkL ks).map ovL)) := by
  intro ps ks hc1
  refine kgr_eq (fun xs0 rr r2 h h2 => ?_) ⟨ps, ks, hc1, rfl, rfl⟩
  obtain ⟨ps1, ks1, _, e1, rfl⟩ := h; obtain ⟨ps2, ks2, _, e2, rfl⟩ := h2
  rw [e1] at e2
  simp only [List.cons.injEq, A.int.injEq, A.bool.injEq, A.agg.injEq, A.row.injEq, pv_inj, kv_inj, true_and, and_true] at e2
  obtain ⟨e3, e4⟩ := e2
  subst e3 e4
  rfl
end Go.Proofs.Ytimgfinlbhodhaa.Ab

namespace Go.Proofs.Ytimgfinlbhodhaa.Ab
open Go
set_option linter.unusedVariables false
set_option linter.unusedSimpArgs false
set_option maxHeartbeats 4000000
theorem ok_copyNetwork : Kn.ok Try.prog (kof [(181, q_copyProgram), (71, q_cloneInt)]) := kof_cons k_copyProgram (kof_cons k_cloneInt ((kof_nil _)))
theorem copyNetwork_ac (ps : List PG) (ks : List LK) (hc1 : netOk ps ks = true) : AC Try.prog 133 [.agg [.row false 3 (ps.map pv), .row false 5 (ks.map kv)]] (.agg [.row true 3 (ps.map opv), .row true 5 (ks.map okv)]) := by
  have e_copyProgram := e_copyProgram
  have e_cloneInt := e_cloneInt
  have hnw := netOk_w hc1
  have hp12 := hnw.pl
  have hk30 := hnw.kl
  have hsm := net_small hc1
  clear hnw
  refine AC.of tab_ok Try.func133 rfl (Nat.le_of_ble_eq_true rfl) fun w0 S0 => ?_
  change G _ _ ⟨[(0, .agg [.row false 3 (ps.map pv), .row false 5 (ks.map kv)])], [], 43⟩
  apply G.seq
  refine G.rg tab_ok ok_copyNetwork (hk := ?_)
  apply G.seq
  refine G.rg tab_ok ok_copyNetwork (hk := ?_)
  refine G.focusNil 2 0 0 3 rfl rfl rfl ?_
  simp only [withH]
  refine G.focusNil 2 0 1 5 rfl rfl rfl ?_
  simp only [withH]
  apply G.seq
  apply G.seq
  refine G.rg tab_ok ok_copyNetwork (hk := ?_)
  apply G.block
  refine G.nm [1, 2, 3, 10, 11, 12] (h := ?_)
  refine G.loopX (fun j : Nat => ⟨[(1, .ptr 0 0 0), (2, .ptr 1 0 0), (3, .ptr 2 0 0), (10, .row false 3 (ps.map pv)), (11, .int .i64 ps.length), (12, .int .i64 j)], [some (2, [[.row false 3 (ps.map pv), .row false 5 (ks.map kv)]]), some (2, [[.nils, .nils]]), some (2, [[.sl 3 0 j, .sl 4 0 0]]), some (3, (ps.take j).map opv), some (5, [])], 43⟩) (fun j => j ≤ ps.length) (fun j => ps.length - j) (0) (Nat.zero_le _) (by simp) ?_
  intro j hj J hJ
  have hw : IntKind.i64.wrap ((j : Int) + 1) = (j : Int) + 1 := wrap64 (by omega) (by omega)
  apply G.seq
  refine G.rg tab_ok ok_copyNetwork (hk := ?_)
  apply G.seq
  refine G.iff (h1 := fun h1 => ?_) (h2 := fun h1 => ?_)
  · try simp only [zz, bne_iff_ne, beq_iff_eq, bne_eq_false_iff_eq, beq_eq_false_iff_ne, ne_eq, gt_iff_lt, ge_iff_le] at h1
    apply G.skip
    apply G.seq
    apply G.block
    apply G.seq
    have hmj : min j ps.length = j := by omega
    have htk1 : List.take j ((ps.take j).map opv) = (ps.take j).map opv := List.take_of_length_le (by simp; omega)
    have htj : ps.take j ++ [ps.getD j default] = ps.take (j + 1) := take_snoc (by omega)
    have hlr : (ps.getD j default).l.length ≤ 1048576 := by have := hsm.1 j (by omega); omega
    have hq1 : ((j + 1 : Nat) : Int) ≤ 4611686018427387904 := by omega
    have hq2 : (j + 1) * 40 ≤ 70368744177664 := by omega
    refine G.rg tab_ok ok_copyNetwork (hk := ?_)
    refine G.dr mixed tab_ok ok_copyNetwork [0, 1, 2, 3, 4, 5, 6, 7] (hk := ?_)
    refine G.lastE 8 2 6 (f := opv) (l := ps.take j) (ps.getD j default) rfl rfl rfl (by decide) (by simp) (pureLL_insv _) rfl ?_
    rw [htj]
    apply G.blk
    refine G.rg tab_ok ok_copyNetwork (hk := ?_)
    refine G.nm [1, 2, 3, 10, 11, 12] (h := ?_)
    exact G.upto (hJ (j + 1) (by omega) (by omega)) (by simp)
  · try simp only [zz, bne_iff_ne, beq_iff_eq, bne_eq_false_iff_eq, beq_eq_false_iff_ne, ne_eq, gt_iff_lt, ge_iff_le] at h1
    refine G.exit rfl ?_
    apply G.seq
    apply G.seq
    refine G.rg tab_ok ok_copyNetwork (hk := ?_)
    apply G.block
    obtain rfl : j = ps.length := by omega
    rw [List.take_length]
    refine G.nm [2, 3, 25, 26, 27] (h := ?_)
    refine G.loopX (fun j : Nat => ⟨[(2, .ptr 0 0 0), (3, .ptr 1 0 0), (25, .row false 5 (ks.map kv)), (26, .int .i64 ks.length), (27, .int .i64 j)], [some (2, [[.nils, .nils]]), some (2, [[.sl 2 0 ps.length, .sl 3 0 j]]), some (3, ps.map opv), some (5, (ks.take j).map okv)], 43⟩) (fun j => j ≤ ks.length) (fun j => ks.length - j) (0) (Nat.zero_le _) (by simp) ?_
    intro j hj J hJ
    have hw : IntKind.i64.wrap ((j : Int) + 1) = (j : Int) + 1 := wrap64 (by omega) (by omega)
    apply G.seq
    refine G.rg tab_ok ok_copyNetwork (hk := ?_)
    apply G.seq
    refine G.iff (h1 := fun h2 => ?_) (h2 := fun h2 => ?_)
    · try simp only [zz, bne_iff_ne, beq_iff_eq, bne_eq_false_iff_eq, beq_eq_false_iff_ne, ne_eq, gt_iff_lt, ge_iff_le] at h2
      apply G.skip
      apply G.seq
      apply G.block
      apply G.seq
      have hmj : min j ks.length = j := by omega
      have htk1 : List.take j ((ks.take j).map okv) = (ks.take j).map okv := List.take_of_length_le (by simp; omega)
      have htj : ks.take j ++ [ks.getD j default] = ks.take (j + 1) := take_snoc (by omega)
      have hlr : (ks.getD j default).tk.length ≤ 1048576 := by have := hsm.2 j (by omega); omega
      have hq1 : ((j + 1 : Nat) : Int) ≤ 4611686018427387904 := by omega
      have hq2 : (j + 1) * 56 ≤ 70368744177664 := by omega
      refine G.rg tab_ok ok_copyNetwork (hk := ?_)
      apply G.seq
      refine G.rg tab_ok ok_copyNetwork (hk := ?_)
      refine G.rg tab_ok ok_copyNetwork (hk := ?_)
      refine G.lastE 7 4 5 (f := okv) (l := ks.take j) (ks.getD j default) rfl rfl rfl (by decide) (by simp) (pureLL_iv _) rfl ?_
      rw [htj]
      apply G.blk
      refine G.rg tab_ok ok_copyNetwork (hk := ?_)
      refine G.nm [2, 3, 25, 26, 27] (h := ?_)
      exact G.upto (hJ (j + 1) (by omega) (by omega)) (by simp)
    · try simp only [zz, bne_iff_ne, beq_iff_eq, bne_eq_false_iff_eq, beq_eq_false_iff_ne, ne_eq, gt_iff_lt, ge_iff_le] at h2
      refine G.exit rfl ?_
      apply G.seq
      refine G.rg tab_ok ok_copyNetwork (hk := ?_)
      obtain rfl : j = ks.length := by omega
      rw [List.take_length]
      refine G.fin tab_ok (hr := ?_)
      rfl
def r_copyNetwork (xs0 : List A) (rr : A) : Prop := ∃ (ps : List PG) (ks : List LK), (netOk ps ks = true) ∧ xs0 = [.agg [.row false 3 (ps.map pv), .row false 5 (ks.map kv)]] ∧ rr = .agg [.row true 3 (ps.map opv), .row true 5 (ks.map okv)]
noncomputable def q_copyNetwork : List A → Option A := kgr r_copyNetwork
theorem k_copyNetwork : KOk Try.prog (133, q_copyNetwork) := kgr_ok (enters_of Try.func133 rfl rfl) (by rintro xs0 rr ⟨ps, ks, hc1, rfl, rfl⟩; exact copyNetwork_ac ps ks hc1)
theorem e_copyNetwork : ∀ (ps : List PG) (ks : List LK), (netOk ps ks = true) → q_copyNetwork [.agg [.row false 3 (ps.map pv), .row false 5 (ks.map kv)]] = some (.agg [.row true 3 (ps.map opv), .row true 5 (ks.map okv)]) := by
  intro ps ks hc1
  refine kgr_eq (fun xs0 rr r2 h h2 => ?_) ⟨ps, ks, hc1, rfl, rfl⟩
  obtain ⟨ps1, ks1, _, e1, rfl⟩ := h; obtain ⟨ps2, ks2, _, e2, rfl⟩ := h2
  rw [e1] at e2
  simp only [List.cons.injEq, A.int.injEq, A.bool.injEq, A.agg.injEq, A.row.injEq, pv_inj, kv_inj, true_and, and_true] at e2
  obtain ⟨e3, e4⟩ := e2
  subst e3 e4
  rfl
theorem ok_checked : Kn.ok Try.prog (kof [(70, q_implIsNetwork), (133, q_copyNetwork)]) := kof_cons k_implIsNetwork (kof_cons k_copyNetwork ((kof_nil _)))
theorem checked_ac (ps : List PG) (ks : List LK) (hc1 : NW ps) (hc2 : KW ks) (hc3 : ps.length < 3518437208781) (hc4 : ks.length < 2513169434844) : AC Try.prog 112 [.agg [.row false 3 (ps.map pv), .row false 5 (ks.map kv)]] (.tup [.agg [.row true 3 ((chk ps ks).1.map opv), .row true 5 ((chk ps ks).2.1.map okv)], .bool (chk ps ks).2.2]) := by
  have e_implIsNetwork := e_implIsNetwork
  have e_copyNetwork := e_copyNetwork
  refine AC.of tab_ok Try.func112 rfl (Nat.le_of_ble_eq_true rfl) fun w0 S0 => ?_
  change G _ _ ⟨[(0, .agg [.row false 3 (ps.map pv), .row false 5 (ks.map kv)])], [], 10⟩
  apply G.seq
  refine G.rg tab_ok ok_checked (hk := ?_)
  apply G.seq
  apply G.seq
  refine G.rg tab_ok ok_checked (hk := ?_)
  refine G.iff (h1 := fun h1 => ?_) (h2 := fun h1 => ?_)
  · try simp only [zz, bne_iff_ne, beq_iff_eq, bne_eq_false_iff_eq, beq_eq_false_iff_ne, ne_eq, gt_iff_lt, ge_iff_le] at h1
    apply G.seq
    refine G.rg tab_ok ok_checked (hk := ?_)
    refine G.focusNil 1 0 0 3 rfl rfl rfl ?_
    simp only [withH]
    refine G.focusNil 1 0 1 5 rfl rfl rfl ?_
    simp only [withH]
    refine G.fin tab_ok (hr := ?_)
    simp [oneOrTup, chk, h1]
  · try simp only [zz, bne_iff_ne, beq_iff_eq, bne_eq_false_iff_eq, beq_eq_false_iff_ne, ne_eq, gt_iff_lt, ge_iff_le] at h1
    apply G.skip
    apply G.seq
    have hnk : netOk ps ks = true := h1
    refine G.rg tab_ok ok_checked (hk := ?_)
    refine G.fin tab_ok (hr := ?_)
    simp only [List.take_of_length_le, List.length_map, Nat.le_refl, oneOrTup, chk, h1, if_true]
def r_checked (xs0 : List A) (rr : A) : Prop := ∃ (ps : List PG) (ks : List LK), (NW ps) ∧ (KW ks) ∧ (ps.length < 3518437208781) ∧ (ks.length < 2513169434844) ∧ xs0 = [.agg [.row false 3 (ps.map pv), .row false 5 (ks.map kv)]] ∧ rr = .tup [.agg [.row true 3 ((chk ps ks).1.map opv), .row true 5 ((chk ps ks).2.1.map okv)], .bool (chk ps ks).2.2]
noncomputable def q_checked : List A → Option A := kgr r_checked
theorem k_checked : KOk Try.prog (112, q_checked) := kgr_ok (enters_of Try.func112 rfl rfl) (by rintro xs0 rr ⟨ps, ks, hc1, hc2, hc3, hc4, rfl, rfl⟩; exact checked_ac ps ks hc1 hc2 hc3 hc4)
theorem e_checked : ∀ (ps : List PG) (ks : List LK), (NW ps) → (KW ks) → (ps.length < 3518437208781) → (ks.length < 2513169434844) → q_checked [.agg [.row false 3 (ps.map pv), .row false 5 (ks.map kv)]] = some (.tup [.agg [.row true 3 ((chk ps ks).1.map opv), .row true 5 ((chk ps ks).2.1.map okv)], .bool (chk ps ks).2.2]) := by
  intro ps ks hc1 hc2 hc3 hc4
  refine kgr_eq (fun xs0 rr r2 h h2 => ?_) ⟨ps, ks, hc1, hc2, hc3, hc4, rfl, rfl⟩
  obtain ⟨ps1, ks1, _, _, _, _, e1, rfl⟩ := h; obtain ⟨ps2, ks2, _, _, _, _, e2, rfl⟩ := h2
  rw [e1] at e2
  simp only [List.cons.injEq, A.int.injEq, A.bool.injEq, A.agg.injEq, A.row.injEq, pv_inj, kv_inj, true_and, and_true] at e2
  obtain ⟨e3, e4⟩ := e2
  subst e3 e4
  rfl
end Go.Proofs.Ytimgfinlbhodhaa.Ab
