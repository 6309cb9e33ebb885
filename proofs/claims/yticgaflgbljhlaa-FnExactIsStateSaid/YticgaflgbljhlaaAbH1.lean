/- Walks of functions of the program: what each answers, for all arguments that meet its conditions. -/
import Derived.Test.YticgaflgbljhlaaAbHist
import Derived.Test.YticgaflgbljhlaaAbN5
import Derived.Test.YticgaflgbljhlaaAbN6
import Derived.Test.YticgaflgbljhlaaAbRpo
import Derived.Test.YticgaflgbljhlaaAbAutoH
namespace Go.Proofs.Yticgaflgbljhlaa.Ab
open Go
set_option linter.unusedVariables false
set_option linter.unusedSimpArgs false
set_option maxHeartbeats 4000000

theorem ok_areHist1 : Kn.ok Try.prog (kof [(76, q_implIsStream)]) := kof_cons k_implIsStream ((kof_nil _))
theorem areHist1_ac (r : List Int) (hc1 : r.length < 17592186044416) : AC Try.prog 157 [.row false 1 (r.map iv)] (.bool (!(strOk r))) := by
  have e_implIsStream := e_implIsStream
  refine AC.of tab_ok Try.func157 rfl (Nat.le_of_ble_eq_true rfl) fun w0 S0 => ?_
  change G _ _ ⟨[(0, .row false 1 (r.map iv))], [], 6⟩
  apply G.seq
  refine G.rg tab_ok ok_areHist1 (hk := ?_)
  apply G.seq
  refine G.rg tab_ok ok_areHist1 (hk := ?_)
  refine G.fin tab_ok (hr := ?_)
  rfl
def r_areHist1 (xs0 : List A) (rr : A) : Prop := ∃ (r : List Int), (r.length < 17592186044416) ∧ xs0 = [.row false 1 (r.map iv)] ∧ rr = .bool (!(strOk r))
noncomputable def q_areHist1 : List A → Option A := kgr r_areHist1
theorem k_areHist1 : KOk Try.prog (157, q_areHist1) := kgr_ok (enters_of Try.func157 rfl rfl) (by rintro xs0 rr ⟨r, hc1, rfl, rfl⟩; exact areHist1_ac r hc1)
theorem e_areHist1 : ∀ (r : List Int), (r.length < 17592186044416) → q_areHist1 [.row false 1 (r.map iv)] = some (.bool (!(strOk r))) := by
  intro r hc1
  refine kgr_eq (fun xs0 rr r2 h h2 => ?_) ⟨r, hc1, rfl, rfl⟩
  obtain ⟨r1, _, e1, rfl⟩ := h; obtain ⟨r2, _, e2, rfl⟩ := h2
  rw [e1] at e2
  simp only [List.cons.injEq, A.int.injEq, A.bool.injEq, A.agg.injEq, A.row.injEq, A.fn.injEq, A.rp.injEq, insv_inj, iv_inj, true_and, and_true] at e2
  simp [e2]

theorem ok_indexStrA : Kn.ok Try.prog (kof [(157, q_areHist1)]) := kof_cons k_areHist1 ((kof_nil _))
theorem indexStrA_ac (hs : List (List Int)) (hc1 : hs.length < 5864062014805) (hc2 : LW hs) : AC Try.prog 165 [.row false 1 (hs.map ivL), .fn 157 []] (.int .i64 (gidx (fun x => !(strOk x)) hs)) := by
  have e_areHist1 := e_areHist1
  have hivl := ivL_eq
  refine AC.of tab_ok Try.func165 rfl (Nat.le_of_ble_eq_true rfl) fun w0 S0 => ?_
  change G _ _ ⟨[(0, .row false 1 (hs.map ivL)), (1, .fn 157 [])], [], 19⟩
  apply G.seq
  refine G.rg tab_ok ok_indexStrA (hk := ?_)
  apply G.seq
  apply G.seq
  refine G.rg tab_ok ok_indexStrA (hk := ?_)
  apply G.block
  refine G.cn [0, 1, 7, 8] [] (h := ?_)
  refine G.loopX (fun j : Nat => ⟨[(0, .row false 1 (hs.map ivL)), (1, .fn 157 []), (7, .int .i64 hs.length), (8, .int .i64 j)], [], 19⟩) (fun j => j ≤ hs.length ∧ ∀ k < j, (fun x => !(strOk x)) (hs.getD k default) = false) (fun j => hs.length - j) (0) (⟨Nat.zero_le _, by omega⟩) (by simp) ?_
  intro j hj J hJ
  obtain ⟨hj, hall⟩ := hj
  have hw : IntKind.i64.wrap ((j : Int) + 1) = (j : Int) + 1 := wrap64 (by omega) (by omega)
  apply G.seq
  refine G.rg tab_ok ok_indexStrA (hk := ?_)
  apply G.seq
  refine G.iff (h1 := fun h1 => ?_) (h2 := fun h1 => ?_)
  · try simp only [decide_eq_true_eq, decide_eq_false_iff_not, Bool.and_eq_true, Bool.and_eq_false_imp, Bool.or_eq_true, Bool.or_eq_false_iff, Bool.not_eq_true', Bool.not_eq_false', bne_iff_ne, beq_iff_eq, bne_eq_false_iff_eq, beq_eq_false_iff_ne, ne_eq, Int.ofNat_lt, Int.not_lt, Int.not_le, Int.ofNat_le, Nat.not_lt, Nat.not_le, gt_iff_lt, ge_iff_le] at h1
    apply G.skip
    apply G.seq
    apply G.block
    apply G.seq
    refine G.rg tab_ok ok_indexStrA (hk := ?_)
    apply G.seq
    have hlr : (hs.getD j default).length < 17592186044416 := hc2 _ (getD_mem0 h1)
    refine G.rg tab_ok ok_indexStrA (hk := ?_)
    refine G.fg [0, 1, 5, 7, 8, 16] (hk := ?_)
    refine G.iff (h1 := fun h2 => ?_) (h2 := fun h2 => ?_)
    · try simp only [decide_eq_true_eq, decide_eq_false_iff_not, Bool.and_eq_true, Bool.and_eq_false_imp, Bool.or_eq_true, Bool.or_eq_false_iff, Bool.not_eq_true', Bool.not_eq_false', bne_iff_ne, beq_iff_eq, bne_eq_false_iff_eq, beq_eq_false_iff_ne, ne_eq, Int.ofNat_lt, Int.not_lt, Int.not_le, Int.ofNat_le, Nat.not_lt, Nat.not_le, gt_iff_lt, ge_iff_le] at h2
      apply G.seq
      refine G.rg tab_ok ok_indexStrA (hk := ?_)
      refine G.fin tab_ok (hr := ?_)
      simp only [oneOrTup]
      congr 1
      exact (gidx_some (p := fun x => !(strOk x)) h1 hall (by simp only [Bool.not_eq_true']; exact h2)).symm
    · try simp only [decide_eq_true_eq, decide_eq_false_iff_not, Bool.and_eq_true, Bool.and_eq_false_imp, Bool.or_eq_true, Bool.or_eq_false_iff, Bool.not_eq_true', Bool.not_eq_false', bne_iff_ne, beq_iff_eq, bne_eq_false_iff_eq, beq_eq_false_iff_ne, ne_eq, Int.ofNat_lt, Int.not_lt, Int.not_le, Int.ofNat_le, Nat.not_lt, Nat.not_le, gt_iff_lt, ge_iff_le] at h2
      apply G.skip
      apply G.blk
      refine G.rg tab_ok ok_indexStrA (hk := ?_)
      refine G.cn [0, 1, 7, 8] [] (h := ?_)
      exact G.upto (hJ (j + 1) ⟨by omega, gupto (p := fun x => !(strOk x)) hall (by simp only [Bool.not_eq_false']; exact h2)⟩ (by omega)) (by simp)
  · try simp only [decide_eq_true_eq, decide_eq_false_iff_not, Bool.and_eq_true, Bool.and_eq_false_imp, Bool.or_eq_true, Bool.or_eq_false_iff, Bool.not_eq_true', Bool.not_eq_false', bne_iff_ne, beq_iff_eq, bne_eq_false_iff_eq, beq_eq_false_iff_ne, ne_eq, Int.ofNat_lt, Int.not_lt, Int.not_le, Int.ofNat_le, Nat.not_lt, Nat.not_le, gt_iff_lt, ge_iff_le] at h1
    refine G.exit rfl ?_
    apply G.seq
    refine G.rg tab_ok ok_indexStrA (hk := ?_)
    refine G.fin tab_ok (hr := ?_)
    simp only [oneOrTup]
    congr 1
    exact (gidx_none (fun k hk => hall k (by omega))).symm
def r_indexStrA (xs0 : List A) (rr : A) : Prop := ∃ (hs : List (List Int)), (hs.length < 5864062014805) ∧ (LW hs) ∧ xs0 = [.row false 1 (hs.map ivL), .fn 157 []] ∧ rr = .int .i64 (gidx (fun x => !(strOk x)) hs)
noncomputable def q_indexStrA : List A → Option A := kgr r_indexStrA
theorem k_indexStrA : KOk Try.prog (165, q_indexStrA) := kgr_ok (enters_of Try.func165 rfl rfl) (by rintro xs0 rr ⟨hs, hc1, hc2, rfl, rfl⟩; exact indexStrA_ac hs hc1 hc2)
theorem e_indexStrA : ∀ (hs : List (List Int)), (hs.length < 5864062014805) → (LW hs) → q_indexStrA [.row false 1 (hs.map ivL), .fn 157 []] = some (.int .i64 (gidx (fun x => !(strOk x)) hs)) := by
  intro hs hc1 hc2
  refine kgr_eq (fun xs0 rr r2 h h2 => ?_) ⟨hs, hc1, hc2, rfl, rfl⟩
  obtain ⟨hs1, _, _, e1, rfl⟩ := h; obtain ⟨hs2, _, _, e2, rfl⟩ := h2
  rw [e1] at e2
  simp only [List.cons.injEq, A.int.injEq, A.agg.injEq, A.row.injEq, A.fn.injEq, pv_inj, kv_inj, ivL_inj, true_and, and_true] at e2
  simp [e2]

theorem ok_containsStrA : Kn.ok Try.prog (kof [(165, q_indexStrA)]) := kof_cons k_indexStrA ((kof_nil _))
theorem containsStrA_ac (hs : List (List Int)) (hc1 : hs.length < 5864062014805) (hc2 : LW hs) : AC Try.prog 124 [.row false 1 (hs.map ivL), .fn 157 []] (.bool (!(hs.all strOk))) := by
  have e_indexStrA := e_indexStrA
  refine AC.of tab_ok Try.func124 rfl (Nat.le_of_ble_eq_true rfl) fun w0 S0 => ?_
  change G _ _ ⟨[(0, .row false 1 (hs.map ivL)), (1, .fn 157 [])], [], 9⟩
  apply G.seq
  refine G.rg tab_ok ok_containsStrA (hk := ?_)
  apply G.seq
  refine G.rg tab_ok ok_containsStrA (hk := ?_)
  refine G.fin tab_ok (hr := ?_)
  simp only [oneOrTup]
  congr 1
  exact gidx_pos _ _
def r_containsStrA (xs0 : List A) (rr : A) : Prop := ∃ (hs : List (List Int)), (hs.length < 5864062014805) ∧ (LW hs) ∧ xs0 = [.row false 1 (hs.map ivL), .fn 157 []] ∧ rr = .bool (!(hs.all strOk))
noncomputable def q_containsStrA : List A → Option A := kgr r_containsStrA
theorem k_containsStrA : KOk Try.prog (124, q_containsStrA) := kgr_ok (enters_of Try.func124 rfl rfl) (by rintro xs0 rr ⟨hs, hc1, hc2, rfl, rfl⟩; exact containsStrA_ac hs hc1 hc2)
theorem e_containsStrA : ∀ (hs : List (List Int)), (hs.length < 5864062014805) → (LW hs) → q_containsStrA [.row false 1 (hs.map ivL), .fn 157 []] = some (.bool (!(hs.all strOk))) := by
  intro hs hc1 hc2
  refine kgr_eq (fun xs0 rr r2 h h2 => ?_) ⟨hs, hc1, hc2, rfl, rfl⟩
  obtain ⟨hs1, _, _, e1, rfl⟩ := h; obtain ⟨hs2, _, _, e2, rfl⟩ := h2
  rw [e1] at e2
  simp only [List.cons.injEq, A.int.injEq, A.agg.injEq, A.row.injEq, A.fn.injEq, pv_inj, kv_inj, ivL_inj, true_and, and_true] at e2
  simp [e2]

theorem ok_implAreHistories : Kn.ok Try.prog (kof [(74, q_implIsNetwork), (124, q_containsStrA)]) := kof_cons k_implIsNetwork (kof_cons k_containsStrA ((kof_nil _)))
theorem implAreHistories_ac (ps : List PG) (ks : List LK) (hs : List (List Int)) (hc1 : NW ps) (hc2 : KW ks) (hc3 : ps.length < 3518437208781) (hc4 : ks.length < 2513169434844) (hc5 : hs.length < 5864062014805) (hc6 : LW hs) : AC Try.prog 117 [.agg [.row false 3 (ps.map pv), .row false 5 (ks.map kv)], .row false 1 (hs.map ivL)] (.bool (histOk ps ks hs)) := by
  have e_implIsNetwork := e_implIsNetwork
  have e_containsStrA := e_containsStrA
  have hivl := ivL_eq
  refine AC.of tab_ok Try.func117 rfl (Nat.le_of_ble_eq_true rfl) fun w0 S0 => ?_
  change G _ _ ⟨[(0, .agg [.row false 3 (ps.map pv), .row false 5 (ks.map kv)]), (1, .row false 1 (hs.map ivL))], [], 20⟩
  apply G.seq
  refine G.rg tab_ok ok_implAreHistories (hk := ?_)
  apply G.seq
  refine G.rg tab_ok ok_implAreHistories (hk := ?_)
  refine G.fin tab_ok (hr := ?_)
  simp only [oneOrTup, histOk, Bool.not_not]
def r_implAreHistories (xs0 : List A) (rr : A) : Prop := ∃ (ps : List PG) (ks : List LK) (hs : List (List Int)), (NW ps) ∧ (KW ks) ∧ (ps.length < 3518437208781) ∧ (ks.length < 2513169434844) ∧ (hs.length < 5864062014805) ∧ (LW hs) ∧ xs0 = [.agg [.row false 3 (ps.map pv), .row false 5 (ks.map kv)], .row false 1 (hs.map ivL)] ∧ rr = .bool (histOk ps ks hs)
noncomputable def q_implAreHistories : List A → Option A := kgr r_implAreHistories
theorem k_implAreHistories : KOk Try.prog (117, q_implAreHistories) := kgr_ok (enters_of Try.func117 rfl rfl) (by rintro xs0 rr ⟨ps, ks, hs, hc1, hc2, hc3, hc4, hc5, hc6, rfl, rfl⟩; exact implAreHistories_ac ps ks hs hc1 hc2 hc3 hc4 hc5 hc6)
theorem e_implAreHistories : ∀ (ps : List PG) (ks : List LK) (hs : List (List Int)), (NW ps) → (KW ks) → (ps.length < 3518437208781) → (ks.length < 2513169434844) → (hs.length < 5864062014805) → (LW hs) → q_implAreHistories [.agg [.row false 3 (ps.map pv), .row false 5 (ks.map kv)], .row false 1 (hs.map ivL)] = some (.bool (histOk ps ks hs)) := by
  intro ps ks hs hc1 hc2 hc3 hc4 hc5 hc6
  refine kgr_eq (fun xs0 rr r2 h h2 => ?_) ⟨ps, ks, hs, hc1, hc2, hc3, hc4, hc5, hc6, rfl, rfl⟩
  obtain ⟨ps1, ks1, hs1, _, _, _, _, _, _, e1, rfl⟩ := h; obtain ⟨ps2, ks2, hs2, _, _, _, _, _, _, e2, rfl⟩ := h2
  rw [e1] at e2
  simp only [List.cons.injEq, A.int.injEq, A.agg.injEq, A.row.injEq, pv_inj, kv_inj, ivL_inj, true_and, and_true] at e2
  obtain ⟨⟨e3, e4⟩, e5⟩ := e2
  subst e3 e4 e5
  rfl

theorem ok_specAreHistories : Kn.ok Try.prog (kof [(65, q_specIsNetwork), (68, q_specIsStream)]) := kof_cons k_specIsNetwork (kof_cons k_specIsStream ((kof_nil _)))
theorem specAreHistories_ac (ps : List PG) (ks : List LK) (hs : List (List Int)) (hc1 : NW ps) (hc2 : KW ks) (hc3 : ps.length < 3518437208781) (hc4 : ks.length < 2513169434844) (hc5 : hs.length < 5864062014805) (hc6 : LW hs) : AC Try.prog 115 [.agg [.row false 3 (ps.map pv), .row false 5 (ks.map kv)], .row false 1 (hs.map ivL)] (.bool (histOk ps ks hs)) := by
  have e_specIsNetwork := e_specIsNetwork
  have e_specIsStream := e_specIsStream
  have hivl := ivL_eq
  refine AC.of tab_ok Try.func115 rfl (Nat.le_of_ble_eq_true rfl) fun w0 S0 => ?_
  change G _ _ ⟨[(0, .agg [.row false 3 (ps.map pv), .row false 5 (ks.map kv)]), (1, .row false 1 (hs.map ivL))], [], 27⟩
  apply G.seq
  refine G.rg tab_ok ok_specAreHistories (hk := ?_)
  apply G.seq
  apply G.seq
  refine G.rg tab_ok ok_specAreHistories (hk := ?_)
  apply G.block
  refine G.cn [1, 2, 7, 8, 9] [0] (h := ?_)
  refine G.loopX (fun j : Nat => ⟨[(1, .row false 1 (hs.map ivL)), (2, .ptr 0 0 0), (7, .row false 1 (hs.map ivL)), (8, .int .i64 hs.length), (9, .int .i64 j)], [some (2, [[.row false 3 (ps.map pv), .row false 5 (ks.map kv)]])], 27⟩) (fun j => j ≤ hs.length ∧ ∀ k < j, strOk (hs.getD k default) = true) (fun j => hs.length - j) (0) (⟨Nat.zero_le _, by omega⟩) (by simp) ?_
  intro j hj J hJ
  obtain ⟨hj, hall⟩ := hj
  have hw : IntKind.i64.wrap ((j : Int) + 1) = (j : Int) + 1 := wrap64 (by omega) (by omega)
  apply G.seq
  refine G.rg tab_ok ok_specAreHistories (hk := ?_)
  apply G.seq
  refine G.iff (h1 := fun h1 => ?_) (h2 := fun h1 => ?_)
  · try simp only [decide_eq_true_eq, decide_eq_false_iff_not, Bool.and_eq_true, Bool.and_eq_false_imp, Bool.or_eq_true, Bool.or_eq_false_iff, Bool.not_eq_true', Bool.not_eq_false', bne_iff_ne, beq_iff_eq, bne_eq_false_iff_eq, beq_eq_false_iff_ne, ne_eq, Int.ofNat_lt, Int.not_lt, Int.not_le, Int.ofNat_le, Nat.not_lt, Nat.not_le, gt_iff_lt, ge_iff_le] at h1
    apply G.skip
    apply G.seq
    apply G.block
    apply G.seq
    refine G.rg tab_ok ok_specAreHistories (hk := ?_)
    apply G.seq
    have hlr : (hs.getD j default).length < 17592186044416 := hc6 _ (getD_mem0 h1)
    refine G.rg tab_ok ok_specAreHistories (hk := ?_)
    refine G.iff (h1 := fun h2 => ?_) (h2 := fun h2 => ?_)
    · try simp only [decide_eq_true_eq, decide_eq_false_iff_not, Bool.and_eq_true, Bool.and_eq_false_imp, Bool.or_eq_true, Bool.or_eq_false_iff, Bool.not_eq_true', Bool.not_eq_false', bne_iff_ne, beq_iff_eq, bne_eq_false_iff_eq, beq_eq_false_iff_ne, ne_eq, Int.ofNat_lt, Int.not_lt, Int.not_le, Int.ofNat_le, Nat.not_lt, Nat.not_le, gt_iff_lt, ge_iff_le] at h2
      apply G.seq
      refine G.rg tab_ok ok_specAreHistories (hk := ?_)
      refine G.fin tab_ok (hr := ?_)
      simp only [oneOrTup, histOk, gnot (p := strOk) h1 h2, Bool.and_false]
    · try simp only [decide_eq_true_eq, decide_eq_false_iff_not, Bool.and_eq_true, Bool.and_eq_false_imp, Bool.or_eq_true, Bool.or_eq_false_iff, Bool.not_eq_true', Bool.not_eq_false', bne_iff_ne, beq_iff_eq, bne_eq_false_iff_eq, beq_eq_false_iff_ne, ne_eq, Int.ofNat_lt, Int.not_lt, Int.not_le, Int.ofNat_le, Nat.not_lt, Nat.not_le, gt_iff_lt, ge_iff_le] at h2
      apply G.skip
      apply G.blk
      refine G.rg tab_ok ok_specAreHistories (hk := ?_)
      refine G.cn [1, 2, 7, 8, 9] [0] (h := ?_)
      exact G.upto (hJ (j + 1) ⟨by omega, gupto (p := strOk) hall h2⟩ (by omega)) (by simp)
  · try simp only [decide_eq_true_eq, decide_eq_false_iff_not, Bool.and_eq_true, Bool.and_eq_false_imp, Bool.or_eq_true, Bool.or_eq_false_iff, Bool.not_eq_true', Bool.not_eq_false', bne_iff_ne, beq_iff_eq, bne_eq_false_iff_eq, beq_eq_false_iff_ne, ne_eq, Int.ofNat_lt, Int.not_lt, Int.not_le, Int.ofNat_le, Nat.not_lt, Nat.not_le, gt_iff_lt, ge_iff_le] at h1
    refine G.exit rfl ?_
    apply G.seq
    refine G.rg tab_ok ok_specAreHistories (hk := ?_)
    refine G.fin tab_ok (hr := ?_)
    simp only [oneOrTup, histOk, gall (p := strOk) (fun k hk => hall k (by omega)), Bool.and_true]
def r_specAreHistories (xs0 : List A) (rr : A) : Prop := ∃ (ps : List PG) (ks : List LK) (hs : List (List Int)), (NW ps) ∧ (KW ks) ∧ (ps.length < 3518437208781) ∧ (ks.length < 2513169434844) ∧ (hs.length < 5864062014805) ∧ (LW hs) ∧ xs0 = [.agg [.row false 3 (ps.map pv), .row false 5 (ks.map kv)], .row false 1 (hs.map ivL)] ∧ rr = .bool (histOk ps ks hs)
noncomputable def q_specAreHistories : List A → Option A := kgr r_specAreHistories
theorem k_specAreHistories : KOk Try.prog (115, q_specAreHistories) := kgr_ok (enters_of Try.func115 rfl rfl) (by rintro xs0 rr ⟨ps, ks, hs, hc1, hc2, hc3, hc4, hc5, hc6, rfl, rfl⟩; exact specAreHistories_ac ps ks hs hc1 hc2 hc3 hc4 hc5 hc6)
theorem e_specAreHistories : ∀ (ps : List PG) (ks : List LK) (hs : List (List Int)), (NW ps) → (KW ks) → (ps.length < 3518437208781) → (ks.length < 2513169434844) → (hs.length < 5864062014805) → (LW hs) → q_specAreHistories [.agg [.row false 3 (ps.map pv), .row false 5 (ks.map kv)], .row false 1 (hs.map ivL)] = some (.bool (histOk ps ks hs)) := by
  intro ps ks hs hc1 hc2 hc3 hc4 hc5 hc6
  refine kgr_eq (fun xs0 rr r2 h h2 => ?_) ⟨ps, ks, hs, hc1, hc2, hc3, hc4, hc5, hc6, rfl, rfl⟩
  obtain ⟨ps1, ks1, hs1, _, _, _, _, _, _, e1, rfl⟩ := h; obtain ⟨ps2, ks2, hs2, _, _, _, _, _, _, e2, rfl⟩ := h2
  rw [e1] at e2
  simp only [List.cons.injEq, A.int.injEq, A.agg.injEq, A.row.injEq, pv_inj, kv_inj, ivL_inj, true_and, and_true] at e2
  obtain ⟨⟨e3, e4⟩, e5⟩ := e2
  subst e3 e4 e5
  rfl

end Go.Proofs.Yticgaflgbljhlaa.Ab
