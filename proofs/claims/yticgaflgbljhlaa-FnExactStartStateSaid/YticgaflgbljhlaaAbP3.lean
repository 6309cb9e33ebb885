/- Walks of functions of the program: what each answers, for all arguments that meet its conditions. -/
import Derived.Test.YticgaflgbljhlaaAbP2
namespace Go.Proofs.Yticgaflgbljhlaa.Ab
open Go
set_option linter.unusedVariables false
set_option linter.unusedSimpArgs false
set_option maxHeartbeats 4000000


theorem ok_isProgram1 : Kn.ok Try.prog (kof [(164, q_isInstr)]) := kof_cons k_isInstr ((kof_nil _))
theorem isProgram1_ac (a : Int) (b : Int) (c : Int) (d : Int) (i : Int) (o : Int) (l : List I4)  : AC Try.prog 163 [.agg [.int .i64 a, .int .i64 b, .int .i64 c, .int .i64 d], .rp 3 [[.int .i64 i, .int .i64 o, .row false 4 (l.map insv)]] 0 0] (.bool (!(opsOk i o l.length (a, b, c, d)))) := by
  have e_isInstr := e_isInstr
  refine AC.of tab_ok Try.func163 rfl (Nat.le_of_ble_eq_true rfl) fun w0 S0 => ?_
  change G _ _ ⟨[(0, .agg [.int .i64 a, .int .i64 b, .int .i64 c, .int .i64 d]), (1, .rp 3 [[.int .i64 i, .int .i64 o, .row false 4 (l.map insv)]] 0 0)], [], 14⟩
  apply G.seq
  refine G.rg tab_ok ok_isProgram1 (hk := ?_)
  apply G.seq
  refine G.rg tab_ok ok_isProgram1 (hk := ?_)
  refine G.fin tab_ok (hr := ?_)
  rfl
def r_isProgram1 (xs0 : List A) (rr : A) : Prop := ∃ (a : Int) (b : Int) (c : Int) (d : Int) (i : Int) (o : Int) (l : List I4), xs0 = [.agg [.int .i64 a, .int .i64 b, .int .i64 c, .int .i64 d], .rp 3 [[.int .i64 i, .int .i64 o, .row false 4 (l.map insv)]] 0 0] ∧ rr = .bool (!(opsOk i o l.length (a, b, c, d)))
noncomputable def q_isProgram1 : List A → Option A := kgr r_isProgram1
theorem k_isProgram1 : KOk Try.prog (163, q_isProgram1) := kgr_ok (enters_of Try.func163 rfl rfl) (by rintro xs0 rr ⟨a, b, c, d, i, o, l, rfl, rfl⟩; exact isProgram1_ac a b c d i o l)
theorem e_isProgram1 : ∀ (a : Int) (b : Int) (c : Int) (d : Int) (i : Int) (o : Int) (l : List I4), q_isProgram1 [.agg [.int .i64 a, .int .i64 b, .int .i64 c, .int .i64 d], .rp 3 [[.int .i64 i, .int .i64 o, .row false 4 (l.map insv)]] 0 0] = some (.bool (!(opsOk i o l.length (a, b, c, d)))) := by
  intro a b c d i o l
  refine kgr_eq (fun xs0 rr r2 h h2 => ?_) ⟨a, b, c, d, i, o, l, rfl, rfl⟩
  obtain ⟨a1, b1, c1, d1, i1, o1, l1, e1, rfl⟩ := h; obtain ⟨a2, b2, c2, d2, i2, o2, l2, e2, rfl⟩ := h2
  rw [e1] at e2
  simp only [List.cons.injEq, A.int.injEq, A.bool.injEq, A.agg.injEq, A.row.injEq, A.fn.injEq, A.rp.injEq, insv_inj, iv_inj, true_and, and_true] at e2
  simp [e2]


theorem ok_indexInstr : Kn.ok Try.prog (kof [(163, q_isProgram1)]) := kof_cons k_isProgram1 ((kof_nil _))
def idxOf (p : I4 → Bool) (l : List I4) : Int := match l.findIdx? p with
  | some i => i
  | none => -1
theorem idx_some {p : I4 → Bool} {l : List I4} {j : Nat} (hj : j < l.length) (hall : ∀ k < j, p (l.getD k default) = false) (h : p (l.getD j default) = true) : idxOf p l = j := by
  have : l.findIdx? p = some j := by
    rw [List.findIdx?_eq_some_iff_getElem]
    refine ⟨hj, by simpa [hj] using h, fun k hk => ?_⟩
    have hk2 : k < l.length := by omega
    simpa [hk2] using hall k hk
  unfold idxOf
  rw [this]
theorem idx_none {p : I4 → Bool} {l : List I4} (hall : ∀ k < l.length, p (l.getD k default) = false) : idxOf p l = -1 := by
  have : l.findIdx? p = none := by
    rw [List.findIdx?_eq_none_iff]
    intro x hx
    obtain ⟨k, hk, rfl⟩ := List.getElem_of_mem hx
    simpa [hk] using hall k hk
  unfold idxOf
  rw [this]
theorem none_upto {l : List I4} {p : I4 → Bool} {i : Nat} (h : ∀ j < i, p (l.getD j default) = false) (h2 : p (l.getD i default) = false) : ∀ j < i + 1, p (l.getD j default) = false := by
  intro j hj
  by_cases e : j = i
  · rw [e]; exact h2
  · exact h j (by omega)

theorem indexInstr_ac (l : List I4) (i : Int) (o : Int) (m : List I4) (hc1 : l.length < 4398046511104) : AC Try.prog 177 [.row false 4 (l.map insv), .fn 163 [.rp 3 [[.int .i64 i, .int .i64 o, .row false 4 (m.map insv)]] 0 0]] (.int .i64 (idxOf (fun x => !(opsOk i o m.length x)) l)) := by
  have e_isProgram1 := e_isProgram1
  refine AC.of tab_ok Try.func177 rfl (Nat.le_of_ble_eq_true rfl) fun w0 S0 => ?_
  change G _ _ ⟨[(0, .row false 4 (l.map insv)), (1, .fn 163 [.rp 3 [[.int .i64 i, .int .i64 o, .row false 4 (m.map insv)]] 0 0])], [], 19⟩
  apply G.seq
  refine G.rg tab_ok ok_indexInstr (hk := ?_)
  apply G.seq
  apply G.seq
  refine G.rg tab_ok ok_indexInstr (hk := ?_)
  apply G.block
  refine G.cn [0, 1, 7, 8] [] (h := ?_)
  refine G.loopX (fun j : Nat => ⟨[(0, .row false 4 (l.map insv)), (1, .fn 163 [.rp 3 [[.int .i64 i, .int .i64 o, .row false 4 (m.map insv)]] 0 0]), (7, .int .i64 l.length), (8, .int .i64 j)], [], 19⟩) (fun j => j ≤ l.length ∧ ∀ k < j, (fun x => !(opsOk i o m.length x)) (l.getD k default) = false) (fun j => l.length - j) (0) (⟨Nat.zero_le _, by omega⟩) (rfl) ?_
  intro j hj J hJ
  obtain ⟨hj, hall⟩ := hj
  have hw : IntKind.i64.wrap ((j : Int) + 1) = (j : Int) + 1 := wrap64 (by omega) (by omega)
  apply G.seq
  refine G.rg tab_ok ok_indexInstr (hk := ?_)
  apply G.seq
  refine G.iff (h1 := fun h1 => ?_) (h2 := fun h1 => ?_)
  · try simp only [decide_eq_true_eq, decide_eq_false_iff_not, Bool.and_eq_true, Bool.and_eq_false_imp, Bool.or_eq_true, Bool.or_eq_false_iff, Bool.not_eq_true', Bool.not_eq_false', bne_iff_ne, beq_iff_eq, bne_eq_false_iff_eq, beq_eq_false_iff_ne, ne_eq, Int.ofNat_lt, Int.not_lt, Int.not_le, Int.ofNat_le, Nat.not_lt, Nat.not_le, gt_iff_lt, ge_iff_le] at h1
    apply G.skip
    apply G.seq
    apply G.block
    apply G.seq
    refine G.rg tab_ok ok_indexInstr (hk := ?_)
    apply G.seq
    refine G.rg tab_ok ok_indexInstr (hk := ?_)
    refine G.fg [0, 1, 5, 7, 8, 16] (hk := ?_)
    refine G.iff (h1 := fun h2 => ?_) (h2 := fun h2 => ?_)
    · try simp only [decide_eq_true_eq, decide_eq_false_iff_not, Bool.and_eq_true, Bool.and_eq_false_imp, Bool.or_eq_true, Bool.or_eq_false_iff, Bool.not_eq_true', Bool.not_eq_false', bne_iff_ne, beq_iff_eq, bne_eq_false_iff_eq, beq_eq_false_iff_ne, ne_eq, Int.ofNat_lt, Int.not_lt, Int.not_le, Int.ofNat_le, Nat.not_lt, Nat.not_le, gt_iff_lt, ge_iff_le] at h2
      apply G.seq
      refine G.rg tab_ok ok_indexInstr (hk := ?_)
      refine G.fin tab_ok (hr := ?_)
      simp only [oneOrTup]
      congr 1
      exact (idx_some (p := fun x => !(opsOk i o m.length x)) h1 hall (by simp only [Bool.not_eq_true']; exact h2)).symm
    · try simp only [decide_eq_true_eq, decide_eq_false_iff_not, Bool.and_eq_true, Bool.and_eq_false_imp, Bool.or_eq_true, Bool.or_eq_false_iff, Bool.not_eq_true', Bool.not_eq_false', bne_iff_ne, beq_iff_eq, bne_eq_false_iff_eq, beq_eq_false_iff_ne, ne_eq, Int.ofNat_lt, Int.not_lt, Int.not_le, Int.ofNat_le, Nat.not_lt, Nat.not_le, gt_iff_lt, ge_iff_le] at h2
      apply G.skip
      apply G.blk
      refine G.rg tab_ok ok_indexInstr (hk := ?_)
      refine G.cn [0, 1, 7, 8] [] (h := ?_)
      exact G.upto (hJ (j + 1) ⟨by omega, none_upto (p := fun x => !(opsOk i o m.length x)) hall (by simp only [Bool.not_eq_false']; exact h2)⟩ (by omega)) (by simp)
  · try simp only [decide_eq_true_eq, decide_eq_false_iff_not, Bool.and_eq_true, Bool.and_eq_false_imp, Bool.or_eq_true, Bool.or_eq_false_iff, Bool.not_eq_true', Bool.not_eq_false', bne_iff_ne, beq_iff_eq, bne_eq_false_iff_eq, beq_eq_false_iff_ne, ne_eq, Int.ofNat_lt, Int.not_lt, Int.not_le, Int.ofNat_le, Nat.not_lt, Nat.not_le, gt_iff_lt, ge_iff_le] at h1
    refine G.exit rfl ?_
    apply G.seq
    refine G.rg tab_ok ok_indexInstr (hk := ?_)
    refine G.fin tab_ok (hr := ?_)
    simp only [oneOrTup]
    congr 1
    exact (idx_none (fun k hk => hall k (by omega))).symm
def r_indexInstr (xs0 : List A) (rr : A) : Prop := ∃ (l : List I4) (i : Int) (o : Int) (m : List I4), (l.length < 4398046511104) ∧ xs0 = [.row false 4 (l.map insv), .fn 163 [.rp 3 [[.int .i64 i, .int .i64 o, .row false 4 (m.map insv)]] 0 0]] ∧ rr = .int .i64 (idxOf (fun x => !(opsOk i o m.length x)) l)
noncomputable def q_indexInstr : List A → Option A := kgr r_indexInstr
theorem k_indexInstr : KOk Try.prog (177, q_indexInstr) := kgr_ok (enters_of Try.func177 rfl rfl) (by rintro xs0 rr ⟨l, i, o, m, hc1, rfl, rfl⟩; exact indexInstr_ac l i o m hc1)
theorem e_indexInstr : ∀ (l : List I4) (i : Int) (o : Int) (m : List I4), (l.length < 4398046511104) → q_indexInstr [.row false 4 (l.map insv), .fn 163 [.rp 3 [[.int .i64 i, .int .i64 o, .row false 4 (m.map insv)]] 0 0]] = some (.int .i64 (idxOf (fun x => !(opsOk i o m.length x)) l)) := by
  intro l i o m hc1
  refine kgr_eq (fun xs0 rr r2 h h2 => ?_) ⟨l, i, o, m, hc1, rfl, rfl⟩
  obtain ⟨l1, i1, o1, m1, _, e1, rfl⟩ := h; obtain ⟨l2, i2, o2, m2, _, e2, rfl⟩ := h2
  rw [e1] at e2
  simp only [List.cons.injEq, A.int.injEq, A.bool.injEq, A.agg.injEq, A.row.injEq, A.fn.injEq, A.rp.injEq, insv_inj, iv_inj, true_and, and_true] at e2
  simp [e2]


theorem ok_containsInstr : Kn.ok Try.prog (kof [(177, q_indexInstr)]) := kof_cons k_indexInstr ((kof_nil _))
theorem idx_pos (p : I4 → Bool) (l : List I4) : decide (idxOf (fun x => !(p x)) l ≥ 0) = !(l.all p) := by
  rw [Bool.eq_iff_iff]
  unfold idxOf
  cases h : l.findIdx? (fun x => !(p x)) with
  | none =>
    rw [List.findIdx?_eq_none_iff] at h
    have : l.all p = true := by rw [List.all_eq_true]; intro x hx; simpa using h x hx
    simp [this]
  | some j =>
    rw [List.findIdx?_eq_some_iff_getElem] at h
    obtain ⟨h1, h2, _⟩ := h
    have : l.all p = false := by rw [List.all_eq_false]; exact ⟨l[j], List.getElem_mem h1, by simpa using h2⟩
    simp [this]

theorem containsInstr_ac (l : List I4) (i : Int) (o : Int) (m : List I4) (hc1 : l.length < 4398046511104) : AC Try.prog 162 [.row false 4 (l.map insv), .fn 163 [.rp 3 [[.int .i64 i, .int .i64 o, .row false 4 (m.map insv)]] 0 0]] (.bool (!(l.all (opsOk i o m.length)))) := by
  have e_indexInstr := e_indexInstr
  refine AC.of tab_ok Try.func162 rfl (Nat.le_of_ble_eq_true rfl) fun w0 S0 => ?_
  change G _ _ ⟨[(0, .row false 4 (l.map insv)), (1, .fn 163 [.rp 3 [[.int .i64 i, .int .i64 o, .row false 4 (m.map insv)]] 0 0])], [], 9⟩
  apply G.seq
  refine G.rg tab_ok ok_containsInstr (hk := ?_)
  apply G.seq
  refine G.rg tab_ok ok_containsInstr (hk := ?_)
  refine G.fin tab_ok (hr := ?_)
  simp only [oneOrTup]
  congr 1
  exact idx_pos _ _
def r_containsInstr (xs0 : List A) (rr : A) : Prop := ∃ (l : List I4) (i : Int) (o : Int) (m : List I4), (l.length < 4398046511104) ∧ xs0 = [.row false 4 (l.map insv), .fn 163 [.rp 3 [[.int .i64 i, .int .i64 o, .row false 4 (m.map insv)]] 0 0]] ∧ rr = .bool (!(l.all (opsOk i o m.length)))
noncomputable def q_containsInstr : List A → Option A := kgr r_containsInstr
theorem k_containsInstr : KOk Try.prog (162, q_containsInstr) := kgr_ok (enters_of Try.func162 rfl rfl) (by rintro xs0 rr ⟨l, i, o, m, hc1, rfl, rfl⟩; exact containsInstr_ac l i o m hc1)
theorem e_containsInstr : ∀ (l : List I4) (i : Int) (o : Int) (m : List I4), (l.length < 4398046511104) → q_containsInstr [.row false 4 (l.map insv), .fn 163 [.rp 3 [[.int .i64 i, .int .i64 o, .row false 4 (m.map insv)]] 0 0]] = some (.bool (!(l.all (opsOk i o m.length)))) := by
  intro l i o m hc1
  refine kgr_eq (fun xs0 rr r2 h h2 => ?_) ⟨l, i, o, m, hc1, rfl, rfl⟩
  obtain ⟨l1, i1, o1, m1, _, e1, rfl⟩ := h; obtain ⟨l2, i2, o2, m2, _, e2, rfl⟩ := h2
  rw [e1] at e2
  simp only [List.cons.injEq, A.int.injEq, A.bool.injEq, A.agg.injEq, A.row.injEq, A.fn.injEq, A.rp.injEq, insv_inj, iv_inj, true_and, and_true] at e2
  simp [e2]


theorem ok_implIsProgram : Kn.ok Try.prog (kof [(162, q_containsInstr)]) := kof_cons k_containsInstr ((kof_nil _))
theorem implIsProgram_ac (i : Int) (o : Int) (l : List I4) (hc1 : l.length < 4398046511104) : AC Try.prog 123 [.agg [.int .i64 i, .int .i64 o, .row false 4 (l.map insv)]] (.bool (progOk i o l)) := by
  have e_containsInstr := e_containsInstr
  have hg : progOk i o l = ((inR i 0 3 && inR o 0 3 && inR l.length 1 24) && l.all (opsOk i o l.length)) := rfl
  refine AC.of tab_ok Try.func123 rfl (Nat.le_of_ble_eq_true rfl) fun w0 S0 => ?_
  change G _ _ ⟨[(0, .agg [.int .i64 i, .int .i64 o, .row false 4 (l.map insv)])], [], 38⟩
  apply G.seq
  refine G.rg tab_ok ok_implIsProgram (hk := ?_)
  apply G.seq
  apply G.seq
  refine G.rg tab_ok ok_implIsProgram (hk := ?_)
  refine G.fg [1, 32] (hk := ?_)
  refine G.iff (h1 := fun h1 => ?_) (h2 := fun h1 => ?_)
  · try simp only [decide_eq_true_eq, decide_eq_false_iff_not, Bool.and_eq_true, Bool.and_eq_false_imp, Bool.or_eq_true, Bool.or_eq_false_iff, Bool.not_eq_true', Bool.not_eq_false', bne_iff_ne, beq_iff_eq, bne_eq_false_iff_eq, beq_eq_false_iff_ne, ne_eq, Int.ofNat_lt, Int.not_lt, Int.not_le, Int.ofNat_le, Nat.not_lt, Nat.not_le, gt_iff_lt, ge_iff_le] at h1
    apply G.seq
    refine G.rg tab_ok ok_implIsProgram (hk := ?_)
    refine G.fin tab_ok (hr := ?_)
    simp only [oneOrTup]
    congr 1
    symm
    rw [hg]
    rw [Bool.and_eq_false_iff]
    left
    rw [Bool.eq_false_iff]
    intro hh
    simp [inR] at h1 hh
    omega
  · try simp only [decide_eq_true_eq, decide_eq_false_iff_not, Bool.and_eq_true, Bool.and_eq_false_imp, Bool.or_eq_true, Bool.or_eq_false_iff, Bool.not_eq_true', Bool.not_eq_false', bne_iff_ne, beq_iff_eq, bne_eq_false_iff_eq, beq_eq_false_iff_ne, ne_eq, Int.ofNat_lt, Int.not_lt, Int.not_le, Int.ofNat_le, Nat.not_lt, Nat.not_le, gt_iff_lt, ge_iff_le] at h1
    apply G.skip
    apply G.seq
    refine G.rg tab_ok ok_implIsProgram (hk := ?_)
    refine G.fin tab_ok (hr := ?_)
    have hpc : (inR i 0 3 && inR o 0 3 && inR l.length 1 24) = true := by rw [Bool.eq_iff_iff]; simp [inR] at h1 ⊢; omega
    simp only [oneOrTup]
    congr 1
    rw [hg, hpc, Bool.true_and, Bool.not_not]
def r_implIsProgram (xs0 : List A) (rr : A) : Prop := ∃ (i : Int) (o : Int) (l : List I4), (l.length < 4398046511104) ∧ xs0 = [.agg [.int .i64 i, .int .i64 o, .row false 4 (l.map insv)]] ∧ rr = .bool (progOk i o l)
noncomputable def q_implIsProgram : List A → Option A := kgr r_implIsProgram
theorem k_implIsProgram : KOk Try.prog (123, q_implIsProgram) := kgr_ok (enters_of Try.func123 rfl rfl) (by rintro xs0 rr ⟨i, o, l, hc1, rfl, rfl⟩; exact implIsProgram_ac i o l hc1)
theorem e_implIsProgram : ∀ (i : Int) (o : Int) (l : List I4), (l.length < 4398046511104) → q_implIsProgram [.agg [.int .i64 i, .int .i64 o, .row false 4 (l.map insv)]] = some (.bool (progOk i o l)) := by
  intro i o l hc1
  refine kgr_eq (fun xs0 rr r2 h h2 => ?_) ⟨i, o, l, hc1, rfl, rfl⟩
  obtain ⟨i1, o1, l1, _, e1, rfl⟩ := h; obtain ⟨i2, o2, l2, _, e2, rfl⟩ := h2
  rw [e1] at e2
  simp only [List.cons.injEq, A.int.injEq, A.bool.injEq, A.agg.injEq, A.row.injEq, A.fn.injEq, A.rp.injEq, insv_inj, iv_inj, true_and, and_true] at e2
  simp [e2]

end Go.Proofs.Yticgaflgbljhlaa.Ab
