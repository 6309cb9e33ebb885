/- Walks of functions of the program, and the plain definitions. -/
import Derived.Test.YtdcjlemkegifjaaGreatFwGe
namespace Go.Proofs.YtdcjlemkegifjaaGreat.Ab
open Go
set_option linter.unusedVariables false
set_option linter.unusedSimpArgs false
set_option maxHeartbeats 4000000
theorem eqSl_ac (a : List Int) (b : List Int) (hc1 : a.length < 17592186044416) (hc2 : b.length < 17592186044416) : AC Tryz.prog 82 [.row false 1 (a.map iv), .row false 1 (b.map iv)] (.bool (decide (a = b))) := by
 refine AC.of tab_ok Tryz.func82 rfl (Nat.le_of_ble_eq_true rfl) fun w0 S0 => ?_
 change G _ _ ⟨[(0, .row false 1 (a.map iv)), (1, .row false 1 (b.map iv))], [], 26⟩
 apply G.seq
 refine G.rg tab_ok (kof_nil _) (hk := ?_)
 apply G.seq
 apply G.seq
 refine G.rg tab_ok (kof_nil _) (hk := ?_)
 refine G.iff (h1 := fun h1 => ?_) (h2 := fun h1 => ?_)
 ·try simp only [zqz] at h1
  apply G.seq
  refine G.rg tab_ok (kof_nil _) (hk := ?_)
  refine G.fin tab_ok (hr := ?_)
  simp only [oneOrTup]
  congr 1
  symm
  rw [decide_eq_false_iff_not]
  intro e
  subst e
  exact h1 rfl
 ·try simp only [zqz] at h1
  apply G.skip
  apply G.seq
  apply G.seq
  have hle1 : a.length ≤ b.length := by omega
  have hle2 : b.length ≤ a.length := by omega
  clear h1
  refine G.rg tab_ok (kof_nil _) (hk := ?_)
  apply G.block
  refine G.cn [0, 1, 12, 13] [] (h := ?_)
  refine G.loopX (fun j : Nat => ⟨[(0, .row false 1 (a.map iv)), (1, .row false 1 (b.map iv)), (12, .int .i64 a.length), (13, .int .i64 j)], [], 26⟩) (fun j => j ≤ a.length ∧ ∀ k < j, a.getD k default = b.getD k default) (fun j => a.length - j) (0) (⟨Nat.zero_le _, by omega⟩) (by simp) ?_
  intro j hj J hJ
  obtain ⟨hj, hall⟩ := hj
  have hw : IntKind.i64.wrap ((j : Int) + 1) = (j : Int) + 1 := wrap64 (by omega) (by omega)
  apply G.seq
  refine G.rg tab_ok (kof_nil _) (hk := ?_)
  apply G.seq
  refine G.iff (h1 := fun h2 => ?_) (h2 := fun h2 => ?_)
  ·try simp only [zqz] at h2
   apply G.skip
   apply G.seq
   apply G.block
   apply G.seq
   refine G.rg tab_ok (kof_nil _) (hk := ?_)
   apply G.seq
   have hjb : j < b.length := by omega
   have hja : j < a.length := by omega
   refine G.dr mixed tab_ok (kof_nil _) [0, 1, 2, 3, 4, 5, 6, 7, 8] (hk := ?_)
   refine G.fg [0, 1, 12, 13, 24] (hk := ?_)
   refine G.iff (h1 := fun h3 => ?_) (h2 := fun h3 => ?_)
   ·try simp only [zqz] at h3
    apply G.seq
    refine G.rg tab_ok (kof_nil _) (hk := ?_)
    refine G.fin tab_ok (hr := ?_)
    simp only [oneOrTup]
    congr 1
    symm
    rw [decide_eq_false_iff_not]
    intro e
    subst e
    exact h3 rfl
   ·try simp only [zqz] at h3
    apply G.skip
    apply G.blk
    refine G.rg tab_ok (kof_nil _) (hk := ?_)
    refine G.cn [0, 1, 12, 13] [] (h := ?_)
    exact G.upto (hJ (j + 1) ⟨by omega, geq_upto hall h3⟩ (by omega)) (by simp)
  ·try simp only [zqz] at h2
   refine G.exit rfl ?_
   apply G.seq
   refine G.rg tab_ok (kof_nil _) (hk := ?_)
   refine G.fin tab_ok (hr := ?_)
   simp only [oneOrTup]
   congr 1
   symm
   rw [decide_eq_true_eq]
   exact geq_all (by omega) (fun k hk => hall k (by omega))
def r_eqSl (xs0 : List A) (rr : A) : Prop := ∃ (a : List Int) (b : List Int), (a.length < 17592186044416) ∧ (b.length < 17592186044416) ∧ xs0 = [.row false 1 (a.map iv), .row false 1 (b.map iv)] ∧ rr = .bool (decide (a = b))
noncomputable def q_eqSl : List A → Option A := kgr r_eqSl
theorem k_eqSl : KOk Tryz.prog (82, q_eqSl) := kgr_ok (enters_of Tryz.func82 rfl rfl) (by rintro xs0 rr ⟨a, b, hc1, hc2, rfl, rfl⟩; exact eqSl_ac a b hc1 hc2)
theorem e_eqSl : ∀ (a : List Int) (b : List Int), (a.length < 17592186044416) → (b.length < 17592186044416) → q_eqSl [.row false 1 (a.map iv), .row false 1 (b.map iv)] = some (.bool (decide (a = b))) := by
 intro a b hc1 hc2
 refine kgr_eq (fun xs0 rr r2 h h2 => ?_) ⟨a, b, hc1, hc2, rfl, rfl⟩
 obtain ⟨a1, b1, _, _, e1, rfl⟩ := h; obtain ⟨a2, b2, _, _, e2, rfl⟩ := h2
 rw [e1] at e2
 simp only [List.cons.injEq, A.int.injEq, A.bool.injEq, A.agg.injEq, A.row.injEq, A.fn.injEq, A.rp.injEq, insv_inj, iv_inj, true_and, and_true] at e2
 simp [e2]
theorem l1Begins_ac (a : List Int) (b : List Int) (hc1 : a.length < 17592186044416) (hc2 : b.length < 17592186044416) : AC Tryz.prog 72 [.row false 1 (a.map iv), .row false 1 (b.map iv)] (.bool (begB a b)) := by
 refine AC.of tab_ok Tryz.func72 rfl (Nat.le_of_ble_eq_true rfl) fun w0 S0 => ?_
 change G _ _ ⟨[(0, .row false 1 (a.map iv)), (1, .row false 1 (b.map iv))], [], 26⟩
 apply G.seq
 refine G.rg tab_ok (kof_nil _) (hk := ?_)
 apply G.seq
 apply G.seq
 refine G.rg tab_ok (kof_nil _) (hk := ?_)
 refine G.iff (h1 := fun h1 => ?_) (h2 := fun h1 => ?_)
 ·try simp only [zqz] at h1
  apply G.seq
  refine G.rg tab_ok (kof_nil _) (hk := ?_)
  refine G.fin tab_ok (hr := ?_)
  simp only [oneOrTup]
  congr 1
  exact (begB_long (by omega)).symm
 ·try simp only [zqz] at h1
  apply G.skip
  apply G.seq
  apply G.seq
  refine G.rg tab_ok (kof_nil _) (hk := ?_)
  apply G.block
  have hlab : a.length ≤ b.length := by omega
  refine G.cn [1, 12, 13, 14] [] (h := ?_)
  refine G.loopX (fun j : Nat => ⟨[(1, .row false 1 (b.map iv)), (12, .row false 1 (a.map iv)), (13, .int .i64 a.length), (14, .int .i64 j)], [], 26⟩) (fun j => j ≤ a.length ∧ ∀ k < j, b.getD k default = a.getD k default) (fun j => a.length - j) (0) (⟨Nat.zero_le _, by omega⟩) (by simp) ?_
  intro j hj J hJ
  obtain ⟨hj, hall⟩ := hj
  have hw : IntKind.i64.wrap ((j : Int) + 1) = (j : Int) + 1 := wrap64 (by omega) (by omega)
  apply G.seq
  refine G.rg tab_ok (kof_nil _) (hk := ?_)
  apply G.seq
  refine G.iff (h1 := fun h2 => ?_) (h2 := fun h2 => ?_)
  ·try simp only [zqz] at h2
   apply G.skip
   apply G.seq
   apply G.block
   apply G.seq
   refine G.rg tab_ok (kof_nil _) (hk := ?_)
   apply G.seq
   have hjb : j < b.length := by omega
   refine G.rg tab_ok (kof_nil _) (hk := ?_)
   refine G.fg [1, 12, 13, 14, 24] (hk := ?_)
   refine G.iff (h1 := fun h3 => ?_) (h2 := fun h3 => ?_)
   ·try simp only [zqz] at h3
    apply G.seq
    refine G.rg tab_ok (kof_nil _) (hk := ?_)
    refine G.fin tab_ok (hr := ?_)
    simp only [oneOrTup]
    congr 1
    exact (begB_no (by omega) h3).symm
   ·try simp only [zqz] at h3
    apply G.skip
    apply G.blk
    refine G.rg tab_ok (kof_nil _) (hk := ?_)
    refine G.cn [1, 12, 13, 14] [] (h := ?_)
    exact G.upto (hJ (j + 1) ⟨by omega, up_step hall h3⟩ (by omega)) (by simp)
  ·try simp only [zqz] at h2
   refine G.exit rfl ?_
   apply G.seq
   refine G.rg tab_ok (kof_nil _) (hk := ?_)
   refine G.fin tab_ok (hr := ?_)
   simp only [oneOrTup]
   congr 1
   exact (begB_yes hlab (fun k hk => hall k (by omega))).symm
def r_l1Begins (xs0 : List A) (rr : A) : Prop := ∃ (a : List Int) (b : List Int), (a.length < 17592186044416) ∧ (b.length < 17592186044416) ∧ xs0 = [.row false 1 (a.map iv), .row false 1 (b.map iv)] ∧ rr = .bool (begB a b)
noncomputable def q_l1Begins : List A → Option A := kgr r_l1Begins
theorem k_l1Begins : KOk Tryz.prog (72, q_l1Begins) := kgr_ok (enters_of Tryz.func72 rfl rfl) (by rintro xs0 rr ⟨a, b, hc1, hc2, rfl, rfl⟩; exact l1Begins_ac a b hc1 hc2)
theorem e_l1Begins : ∀ (a : List Int) (b : List Int), (a.length < 17592186044416) → (b.length < 17592186044416) → q_l1Begins [.row false 1 (a.map iv), .row false 1 (b.map iv)] = some (.bool (begB a b)) := by
 intro a b hc1 hc2
 refine kgr_eq (fun xs0 rr r2 h h2 => ?_) ⟨a, b, hc1, hc2, rfl, rfl⟩
 obtain ⟨a1, b1, _, _, e1, rfl⟩ := h; obtain ⟨a2, b2, _, _, e2, rfl⟩ := h2
 rw [e1] at e2
 simp only [List.cons.injEq, A.int.injEq, A.bool.injEq, A.agg.injEq, A.row.injEq, A.fn.injEq, A.rp.injEq, insv_inj, iv_inj, true_and, and_true] at e2
 simp [e2]
theorem ok_implIsPrefix : Kn.ok Tryz.prog (kof [(80, q_implIsStream), (82, q_eqSl)]) := kof_cons k_implIsStream (kof_cons k_eqSl ((kof_nil _)))
theorem implIsPrefix_ac (a : List Int) (b : List Int) (hc1 : a.length < 17592186044416) (hc2 : b.length < 17592186044416) : AC Tryz.prog 81 [.row false 1 (a.map iv), .row false 1 (b.map iv)] (.bool (pfxB a b)) := by
 have e_implIsStream := e_implIsStream
 have e_eqSl := e_eqSl
 have hft : (false == true) = false := rfl
 have htf : (true == false) = false := rfl
 refine AC.of tab_ok Tryz.func81 rfl (Nat.le_of_ble_eq_true rfl) fun w0 S0 => ?_
 change G _ _ ⟨[(0, .row false 1 (a.map iv)), (1, .row false 1 (b.map iv))], [], 26⟩
 apply G.seq
 refine G.rg tab_ok ok_implIsPrefix (hk := ?_)
 apply G.seq
 rcases (show strOk a = false ∨ (strOk a = true ∧ strOk b = false) ∨ (strOk a = true ∧ strOk b = true ∧ ¬ (a.length : Int) ≤ (b.length : Int)) ∨ (strOk a = true ∧ strOk b = true ∧ (a.length : Int) ≤ (b.length : Int)) by cases strOk a <;> cases strOk b <;> simp; omega) with c1 | ⟨c1, c2⟩ | ⟨c1, c2, c3⟩ | ⟨c1, c2, c3⟩
 ·skip
  refine G.rgN 3 tab_ok ok_implIsPrefix (hk := ?_)
  refine G.rdC tab_ok ok_implIsPrefix (hk := ?_)
  refine G.fin tab_ok (hr := ?_)
  simp only [oneOrTup, pfxB, c1, Bool.false_and]
 ·skip
  refine G.rgN 3 tab_ok ok_implIsPrefix (hk := ?_)
  refine G.rdC tab_ok ok_implIsPrefix (hk := ?_)
  refine G.fin tab_ok (hr := ?_)
  simp only [oneOrTup, pfxB, c2, Bool.false_and, Bool.and_false]
 ·skip
  refine G.rgN 3 tab_ok ok_implIsPrefix (hk := ?_)
  refine G.rdC tab_ok ok_implIsPrefix (hk := ?_)
  refine G.fin tab_ok (hr := ?_)
  simp only [oneOrTup, pfxB, begB_long (a := a) (b := b) (by omega), Bool.and_false]
 ·skip
  have c4 : a.length ≤ b.length := by omega
  have hmin : min a.length b.length = a.length := by omega
  have htk : List.take a.length (b.map iv) = (b.take a.length).map iv := (List.map_take ..).symm
  have hlt : (b.take a.length).length < 17592186044416 := by rw [List.length_take]; omega
  refine G.rgN 3 tab_ok ok_implIsPrefix (hk := ?_)
  refine G.rdC tab_ok ok_implIsPrefix (hk := ?_)
  refine G.fin tab_ok (hr := ?_)
  simp only [oneOrTup]
  congr 1
  rw [pfxB_cmp c1 c2 c4]
def r_implIsPrefix (xs0 : List A) (rr : A) : Prop := ∃ (a : List Int) (b : List Int), (a.length < 17592186044416) ∧ (b.length < 17592186044416) ∧ xs0 = [.row false 1 (a.map iv), .row false 1 (b.map iv)] ∧ rr = .bool (pfxB a b)
noncomputable def q_implIsPrefix : List A → Option A := kgr r_implIsPrefix
theorem k_implIsPrefix : KOk Tryz.prog (81, q_implIsPrefix) := kgr_ok (enters_of Tryz.func81 rfl rfl) (by rintro xs0 rr ⟨a, b, hc1, hc2, rfl, rfl⟩; exact implIsPrefix_ac a b hc1 hc2)
theorem e_implIsPrefix : ∀ (a : List Int) (b : List Int), (a.length < 17592186044416) → (b.length < 17592186044416) → q_implIsPrefix [.row false 1 (a.map iv), .row false 1 (b.map iv)] = some (.bool (pfxB a b)) := by
 intro a b hc1 hc2
 refine kgr_eq (fun xs0 rr r2 h h2 => ?_) ⟨a, b, hc1, hc2, rfl, rfl⟩
 obtain ⟨a1, b1, _, _, e1, rfl⟩ := h; obtain ⟨a2, b2, _, _, e2, rfl⟩ := h2
 rw [e1] at e2
 simp only [List.cons.injEq, A.int.injEq, A.bool.injEq, A.agg.injEq, A.row.injEq, A.fn.injEq, A.rp.injEq, insv_inj, iv_inj, true_and, and_true] at e2
 simp [e2]
-- not in this seat: areHist1
-- not in this seat: indexStrA
-- not in this seat: containsStrA
-- not in this seat: implAreHistories
-- not in this seat: specAreHistories
theorem l3Has_ac (ps : List PG) (ks : List LK) (p : Int)  : AC Tryz.prog 44 [.agg [.row false 3 (ps.map pv), .row false 5 (ks.map kv)], .int .i64 p] (.bool (hasP ps p)) := by
 refine AC.of tab_ok Tryz.func44 rfl (Nat.le_of_ble_eq_true rfl) fun w0 S0 => ?_
 change G _ _ ⟨[(0, .agg [.row false 3 (ps.map pv), .row false 5 (ks.map kv)]), (1, .int .i64 p)], [], 14⟩
 apply G.seq
 refine G.rg tab_ok (kof_nil _) (hk := ?_)
 apply G.seq
 refine G.rg tab_ok (kof_nil _) (hk := ?_)
 refine G.fin tab_ok (hr := ?_)
 rfl
def r_l3Has (xs0 : List A) (rr : A) : Prop := ∃ (ps : List PG) (ks : List LK) (p : Int), xs0 = [.agg [.row false 3 (ps.map pv), .row false 5 (ks.map kv)], .int .i64 p] ∧ rr = .bool (hasP ps p)
noncomputable def q_l3Has : List A → Option A := kgr r_l3Has
theorem k_l3Has : KOk Tryz.prog (44, q_l3Has) := kgr_ok (enters_of Tryz.func44 rfl rfl) (by rintro xs0 rr ⟨ps, ks, p, rfl, rfl⟩; exact l3Has_ac ps ks p)
theorem e_l3Has : ∀ (ps : List PG) (ks : List LK) (p : Int), q_l3Has [.agg [.row false 3 (ps.map pv), .row false 5 (ks.map kv)], .int .i64 p] = some (.bool (hasP ps p)) := by
 intro ps ks p
 refine kgr_eq (fun xs0 rr r2 h h2 => ?_) ⟨ps, ks, p, rfl, rfl⟩
 obtain ⟨ps1, ks1, p1, e1, rfl⟩ := h; obtain ⟨ps2, ks2, p2, e2, rfl⟩ := h2
 rw [e1] at e2
 simp only [List.cons.injEq, A.int.injEq, A.agg.injEq, A.row.injEq, pv_inj, kv_inj, true_and, and_true] at e2
 obtain ⟨⟨e3, e4⟩, e5⟩ := e2
 subst e3 e4 e5
 rfl
-- not in this seat: linkTo1
-- not in this seat: idxTo
-- not in this seat: onlyTo
-- not in this seat: implLinkTo
-- not in this seat: specLinkTo
-- not in this seat: linkFr1
-- not in this seat: idxFr
-- not in this seat: onlyFr
-- not in this seat: implLinkFrom
-- not in this seat: specLinkFrom
end Go.Proofs.YtdcjlemkegifjaaGreat.Ab
