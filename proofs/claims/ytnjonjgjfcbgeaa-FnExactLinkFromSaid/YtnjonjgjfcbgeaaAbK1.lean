/- Walks of functions of the program: what each answers, for all arguments that meet its conditions. -/
import Derived.Test.YtnjonjgjfcbgeaaAbNet3
import Derived.Test.YtnjonjgjfcbgeaaAbN5
import Derived.Test.YtnjonjgjfcbgeaaAbN6
import Derived.Test.YtnjonjgjfcbgeaaAbAutoH
namespace Go.Proofs.Ytnjonjgjfcbgeaa.Ab
open Go
set_option linter.unusedVariables false
set_option linter.unusedSimpArgs false
set_option maxHeartbeats 4000000

theorem l3Has_ac (ps : List PG) (ks : List LK) (p : Int)  : AC Try.prog 94 [.agg [.row false 3 (ps.map pv), .row false 5 (ks.map kv)], .int .i64 p] (.bool (hasP ps p)) := by
  refine AC.of tab_ok Try.func94 rfl (Nat.le_of_ble_eq_true rfl) fun w0 S0 => ?_
  change G _ _ ⟨[(0, .agg [.row false 3 (ps.map pv), .row false 5 (ks.map kv)]), (1, .int .i64 p)], [], 14⟩
  apply G.seq
  refine G.rg tab_ok (kof_nil _) (hk := ?_)
  apply G.seq
  refine G.rg tab_ok (kof_nil _) (hk := ?_)
  refine G.fin tab_ok (hr := ?_)
  rfl
def r_l3Has (xs0 : List A) (rr : A) : Prop := ∃ (ps : List PG) (ks : List LK) (p : Int), xs0 = [.agg [.row false 3 (ps.map pv), .row false 5 (ks.map kv)], .int .i64 p] ∧ rr = .bool (hasP ps p)
noncomputable def q_l3Has : List A → Option A := kgr r_l3Has
theorem k_l3Has : KOk Try.prog (94, q_l3Has) := kgr_ok (enters_of Try.func94 rfl rfl) (by rintro xs0 rr ⟨ps, ks, p, rfl, rfl⟩; exact l3Has_ac ps ks p)
theorem e_l3Has : ∀ (ps : List PG) (ks : List LK) (p : Int), q_l3Has [.agg [.row false 3 (ps.map pv), .row false 5 (ks.map kv)], .int .i64 p] = some (.bool (hasP ps p)) := by
  intro ps ks p
  refine kgr_eq (fun xs0 rr r2 h h2 => ?_) ⟨ps, ks, p, rfl, rfl⟩
  obtain ⟨ps1, ks1, p1, e1, rfl⟩ := h; obtain ⟨ps2, ks2, p2, e2, rfl⟩ := h2
  rw [e1] at e2
  simp only [List.cons.injEq, A.int.injEq, A.agg.injEq, A.row.injEq, pv_inj, kv_inj, true_and, and_true] at e2
  obtain ⟨⟨e3, e4⟩, e5⟩ := e2
  subst e3 e4 e5
  rfl

theorem linkTo1_ac (fr : Int) (ou : Int) (to : Int) (ip : Int) (tk : List Int) (p : Int) (q : Int)  : AC Try.prog 98 [.agg [.int .i64 fr, .int .i64 ou, .int .i64 to, .int .i64 ip, .row false 1 (tk.map iv)], .rp 1 [[.int .i64 p]] 0 0, .rp 1 [[.int .i64 q]] 0 0] (.bool (isToC p q ⟨fr, ou, to, ip, tk⟩)) := by
  refine AC.of tab_ok Try.func98 rfl (Nat.le_of_ble_eq_true rfl) fun w0 S0 => ?_
  change G _ _ ⟨[(0, .agg [.int .i64 fr, .int .i64 ou, .int .i64 to, .int .i64 ip, .row false 1 (tk.map iv)]), (1, .rp 1 [[.int .i64 p]] 0 0), (2, .rp 1 [[.int .i64 q]] 0 0)], [], 19⟩
  apply G.seq
  refine G.rg tab_ok (kof_nil _) (hk := ?_)
  apply G.seq
  refine G.rg tab_ok (kof_nil _) (hk := ?_)
  refine G.fin tab_ok (hr := ?_)
  rfl
def r_linkTo1 (xs0 : List A) (rr : A) : Prop := ∃ (fr : Int) (ou : Int) (to : Int) (ip : Int) (tk : List Int) (p : Int) (q : Int), xs0 = [.agg [.int .i64 fr, .int .i64 ou, .int .i64 to, .int .i64 ip, .row false 1 (tk.map iv)], .rp 1 [[.int .i64 p]] 0 0, .rp 1 [[.int .i64 q]] 0 0] ∧ rr = .bool (isToC p q ⟨fr, ou, to, ip, tk⟩)
noncomputable def q_linkTo1 : List A → Option A := kgr r_linkTo1
theorem k_linkTo1 : KOk Try.prog (98, q_linkTo1) := kgr_ok (enters_of Try.func98 rfl rfl) (by rintro xs0 rr ⟨fr, ou, to, ip, tk, p, q, rfl, rfl⟩; exact linkTo1_ac fr ou to ip tk p q)
theorem e_linkTo1 : ∀ (fr : Int) (ou : Int) (to : Int) (ip : Int) (tk : List Int) (p : Int) (q : Int), q_linkTo1 [.agg [.int .i64 fr, .int .i64 ou, .int .i64 to, .int .i64 ip, .row false 1 (tk.map iv)], .rp 1 [[.int .i64 p]] 0 0, .rp 1 [[.int .i64 q]] 0 0] = some (.bool (isToC p q ⟨fr, ou, to, ip, tk⟩)) := by
  intro fr ou to ip tk p q
  refine kgr_eq (fun xs0 rr r2 h h2 => ?_) ⟨fr, ou, to, ip, tk, p, q, rfl, rfl⟩
  obtain ⟨fr1, ou1, to1, ip1, tk1, p1, q1, e1, rfl⟩ := h; obtain ⟨fr2, ou2, to2, ip2, tk2, p2, q2, e2, rfl⟩ := h2
  rw [e1] at e2
  simp only [List.cons.injEq, A.int.injEq, A.agg.injEq, A.row.injEq, A.rp.injEq, iv_inj, true_and, and_true] at e2
  simp [e2]

theorem ok_idxTo : Kn.ok Try.prog (kof [(98, q_linkTo1)]) := kof_cons k_linkTo1 ((kof_nil _))
theorem idxTo_ac (ks : List LK) (p : Int) (q : Int) (hc1 : ks.length < 2513169434844) : AC Try.prog 148 [.row false 5 (ks.map kv), .fn 98 [.rp 1 [[.int .i64 p]] 0 0, .rp 1 [[.int .i64 q]] 0 0]] (.int .i64 (gidx (isToC p q) ks)) := by
  have e_linkTo1 := e_linkTo1
  refine AC.of tab_ok Try.func148 rfl (Nat.le_of_ble_eq_true rfl) fun w0 S0 => ?_
  change G _ _ ⟨[(0, .row false 5 (ks.map kv)), (1, .fn 98 [.rp 1 [[.int .i64 p]] 0 0, .rp 1 [[.int .i64 q]] 0 0])], [], 19⟩
  apply G.seq
  refine G.rg tab_ok ok_idxTo (hk := ?_)
  apply G.seq
  apply G.seq
  refine G.rg tab_ok ok_idxTo (hk := ?_)
  apply G.block
  refine G.cn [0, 1, 7, 8] [] (h := ?_)
  refine G.loopX (fun j : Nat => ⟨[(0, .row false 5 (ks.map kv)), (1, .fn 98 [.rp 1 [[.int .i64 p]] 0 0, .rp 1 [[.int .i64 q]] 0 0]), (7, .int .i64 ks.length), (8, .int .i64 j)], [], 19⟩) (fun j => j ≤ ks.length ∧ ∀ k < j, (isToC p q) (ks.getD k default) = false) (fun j => ks.length - j) (0) (⟨Nat.zero_le _, by omega⟩) (rfl) ?_
  intro j hj J hJ
  obtain ⟨hj, hall⟩ := hj
  have hw : IntKind.i64.wrap ((j : Int) + 1) = (j : Int) + 1 := wrap64 (by omega) (by omega)
  apply G.seq
  refine G.rg tab_ok ok_idxTo (hk := ?_)
  apply G.seq
  refine G.iff (h1 := fun h1 => ?_) (h2 := fun h1 => ?_)
  · try simp only [decide_eq_true_eq, decide_eq_false_iff_not, Bool.and_eq_true, Bool.and_eq_false_imp, Bool.or_eq_true, Bool.or_eq_false_iff, Bool.not_eq_true', Bool.not_eq_false', bne_iff_ne, beq_iff_eq, bne_eq_false_iff_eq, beq_eq_false_iff_ne, ne_eq, Int.ofNat_lt, Int.not_lt, Int.not_le, Int.ofNat_le, Nat.not_lt, Nat.not_le, gt_iff_lt, ge_iff_le] at h1
    apply G.skip
    apply G.seq
    apply G.block
    apply G.seq
    refine G.rg tab_ok ok_idxTo (hk := ?_)
    apply G.seq
    refine G.rg tab_ok ok_idxTo (hk := ?_)
    refine G.fg [0, 1, 5, 7, 8, 16] (hk := ?_)
    refine G.iff (h1 := fun h2 => ?_) (h2 := fun h2 => ?_)
    · try simp only [decide_eq_true_eq, decide_eq_false_iff_not, Bool.and_eq_true, Bool.and_eq_false_imp, Bool.or_eq_true, Bool.or_eq_false_iff, Bool.not_eq_true', Bool.not_eq_false', bne_iff_ne, beq_iff_eq, bne_eq_false_iff_eq, beq_eq_false_iff_ne, ne_eq, Int.ofNat_lt, Int.not_lt, Int.not_le, Int.ofNat_le, Nat.not_lt, Nat.not_le, gt_iff_lt, ge_iff_le] at h2
      apply G.seq
      refine G.rg tab_ok ok_idxTo (hk := ?_)
      refine G.fin tab_ok (hr := ?_)
      simp only [oneOrTup]
      congr 1
      exact (gidx_some (p := (isToC p q)) h1 hall h2).symm
    · try simp only [decide_eq_true_eq, decide_eq_false_iff_not, Bool.and_eq_true, Bool.and_eq_false_imp, Bool.or_eq_true, Bool.or_eq_false_iff, Bool.not_eq_true', Bool.not_eq_false', bne_iff_ne, beq_iff_eq, bne_eq_false_iff_eq, beq_eq_false_iff_ne, ne_eq, Int.ofNat_lt, Int.not_lt, Int.not_le, Int.ofNat_le, Nat.not_lt, Nat.not_le, gt_iff_lt, ge_iff_le] at h2
      apply G.skip
      apply G.blk
      refine G.rg tab_ok ok_idxTo (hk := ?_)
      refine G.cn [0, 1, 7, 8] [] (h := ?_)
      exact G.upto (hJ (j + 1) ⟨by omega, gupto (p := (isToC p q)) hall h2⟩ (by omega)) (by simp)
  · try simp only [decide_eq_true_eq, decide_eq_false_iff_not, Bool.and_eq_true, Bool.and_eq_false_imp, Bool.or_eq_true, Bool.or_eq_false_iff, Bool.not_eq_true', Bool.not_eq_false', bne_iff_ne, beq_iff_eq, bne_eq_false_iff_eq, beq_eq_false_iff_ne, ne_eq, Int.ofNat_lt, Int.not_lt, Int.not_le, Int.ofNat_le, Nat.not_lt, Nat.not_le, gt_iff_lt, ge_iff_le] at h1
    refine G.exit rfl ?_
    apply G.seq
    refine G.rg tab_ok ok_idxTo (hk := ?_)
    refine G.fin tab_ok (hr := ?_)
    simp only [oneOrTup]
    congr 1
    exact (gidx_none (fun k hk => hall k (by omega))).symm
def r_idxTo (xs0 : List A) (rr : A) : Prop := ∃ (ks : List LK) (p : Int) (q : Int), (ks.length < 2513169434844) ∧ xs0 = [.row false 5 (ks.map kv), .fn 98 [.rp 1 [[.int .i64 p]] 0 0, .rp 1 [[.int .i64 q]] 0 0]] ∧ rr = .int .i64 (gidx (isToC p q) ks)
noncomputable def q_idxTo : List A → Option A := kgr r_idxTo
theorem k_idxTo : KOk Try.prog (148, q_idxTo) := kgr_ok (enters_of Try.func148 rfl rfl) (by rintro xs0 rr ⟨ks, p, q, hc1, rfl, rfl⟩; exact idxTo_ac ks p q hc1)
theorem e_idxTo : ∀ (ks : List LK) (p : Int) (q : Int), (ks.length < 2513169434844) → q_idxTo [.row false 5 (ks.map kv), .fn 98 [.rp 1 [[.int .i64 p]] 0 0, .rp 1 [[.int .i64 q]] 0 0]] = some (.int .i64 (gidx (isToC p q) ks)) := by
  intro ks p q hc1
  refine kgr_eq (fun xs0 rr r2 h h2 => ?_) ⟨ks, p, q, hc1, rfl, rfl⟩
  obtain ⟨ks1, p1, q1, _, e1, rfl⟩ := h; obtain ⟨ks2, p2, q2, _, e2, rfl⟩ := h2
  rw [e1] at e2
  simp only [List.cons.injEq, A.int.injEq, A.agg.injEq, A.row.injEq, A.fn.injEq, A.rp.injEq, pv_inj, kv_inj, true_and, and_true] at e2
  obtain ⟨e3, e5, e6⟩ := e2
  subst e3 e5 e6
  rfl

theorem ok_onlyTo : Kn.ok Try.prog (kof [(30, q_implIsNetwork), (148, q_idxTo)]) := kof_cons k_implIsNetwork (kof_cons k_idxTo ((kof_nil _)))
theorem onlyTo_ac (ps : List PG) (ks : List LK) (p : Int) (q : Int) (hc1 : NW ps) (hc2 : KW ks) (hc3 : ps.length < 3518437208781) (hc4 : ks.length < 2513169434844) : AC Try.prog 96 [.agg [.row false 3 (ps.map pv), .row false 5 (ks.map kv)], .fn 98 [.rp 1 [[.int .i64 p]] 0 0, .rp 1 [[.int .i64 q]] 0 0]] (.tup [.int .i64 (linkToO ps ks p q).1, .bool (linkToO ps ks p q).2]) := by
  have e_implIsNetwork := e_implIsNetwork
  have e_idxTo := e_idxTo
  refine AC.of tab_ok Try.func96 rfl (Nat.le_of_ble_eq_true rfl) fun w0 S0 => ?_
  change G _ _ ⟨[(0, .agg [.row false 3 (ps.map pv), .row false 5 (ks.map kv)]), (1, .fn 98 [.rp 1 [[.int .i64 p]] 0 0, .rp 1 [[.int .i64 q]] 0 0])], [], 17⟩
  apply G.seq
  refine G.rg tab_ok ok_onlyTo (hk := ?_)
  apply G.seq
  apply G.seq
  refine G.rg tab_ok ok_onlyTo (hk := ?_)
  refine G.iff (h1 := fun h1 => ?_) (h2 := fun h1 => ?_)
  · try simp only [decide_eq_true_eq, decide_eq_false_iff_not, Bool.and_eq_true, Bool.and_eq_false_imp, Bool.or_eq_true, Bool.or_eq_false_iff, Bool.not_eq_true', Bool.not_eq_false', bne_iff_ne, beq_iff_eq, bne_eq_false_iff_eq, beq_eq_false_iff_ne, ne_eq, Int.ofNat_lt, Int.not_lt, Int.not_le, Int.ofNat_le, Nat.not_lt, Nat.not_le, gt_iff_lt, ge_iff_le] at h1
    apply G.seq
    refine G.rg tab_ok ok_onlyTo (hk := ?_)
    refine G.fin tab_ok (hr := ?_)
    simp only [oneOrTup]
    rw [toO_bad h1]
  · try simp only [decide_eq_true_eq, decide_eq_false_iff_not, Bool.and_eq_true, Bool.and_eq_false_imp, Bool.or_eq_true, Bool.or_eq_false_iff, Bool.not_eq_true', Bool.not_eq_false', bne_iff_ne, beq_iff_eq, bne_eq_false_iff_eq, beq_eq_false_iff_ne, ne_eq, Int.ofNat_lt, Int.not_lt, Int.not_le, Int.ofNat_le, Nat.not_lt, Nat.not_le, gt_iff_lt, ge_iff_le] at h1
    apply G.skip
    apply G.seq
    refine G.rg tab_ok ok_onlyTo (hk := ?_)
    apply G.seq
    apply G.seq
    refine G.rg tab_ok ok_onlyTo (hk := ?_)
    refine G.fg [6, 15] (hk := ?_)
    refine G.iff (h1 := fun h2 => ?_) (h2 := fun h2 => ?_)
    · try simp only [decide_eq_true_eq, decide_eq_false_iff_not, Bool.and_eq_true, Bool.and_eq_false_imp, Bool.or_eq_true, Bool.or_eq_false_iff, Bool.not_eq_true', Bool.not_eq_false', bne_iff_ne, beq_iff_eq, bne_eq_false_iff_eq, beq_eq_false_iff_ne, ne_eq, Int.ofNat_lt, Int.not_lt, Int.not_le, Int.ofNat_le, Nat.not_lt, Nat.not_le, gt_iff_lt, ge_iff_le] at h2
      apply G.seq
      refine G.rg tab_ok ok_onlyTo (hk := ?_)
      refine G.fin tab_ok (hr := ?_)
      have hh := linkTo_at (p := p) (q := q) h1
      rw [if_pos h2] at hh
      simp only [oneOrTup]
      rw [← hh]
    · try simp only [decide_eq_true_eq, decide_eq_false_iff_not, Bool.and_eq_true, Bool.and_eq_false_imp, Bool.or_eq_true, Bool.or_eq_false_iff, Bool.not_eq_true', Bool.not_eq_false', bne_iff_ne, beq_iff_eq, bne_eq_false_iff_eq, beq_eq_false_iff_ne, ne_eq, Int.ofNat_lt, Int.not_lt, Int.not_le, Int.ofNat_le, Nat.not_lt, Nat.not_le, gt_iff_lt, ge_iff_le] at h2
      apply G.skip
      apply G.seq
      refine G.rg tab_ok ok_onlyTo (hk := ?_)
      refine G.fin tab_ok (hr := ?_)
      have hh := linkTo_at (p := p) (q := q) h1
      rw [if_neg (by omega)] at hh
      simp only [oneOrTup]
      rw [← hh]
def r_onlyTo (xs0 : List A) (rr : A) : Prop := ∃ (ps : List PG) (ks : List LK) (p : Int) (q : Int), (NW ps) ∧ (KW ks) ∧ (ps.length < 3518437208781) ∧ (ks.length < 2513169434844) ∧ xs0 = [.agg [.row false 3 (ps.map pv), .row false 5 (ks.map kv)], .fn 98 [.rp 1 [[.int .i64 p]] 0 0, .rp 1 [[.int .i64 q]] 0 0]] ∧ rr = .tup [.int .i64 (linkToO ps ks p q).1, .bool (linkToO ps ks p q).2]
noncomputable def q_onlyTo : List A → Option A := kgr r_onlyTo
theorem k_onlyTo : KOk Try.prog (96, q_onlyTo) := kgr_ok (enters_of Try.func96 rfl rfl) (by rintro xs0 rr ⟨ps, ks, p, q, hc1, hc2, hc3, hc4, rfl, rfl⟩; exact onlyTo_ac ps ks p q hc1 hc2 hc3 hc4)
theorem e_onlyTo : ∀ (ps : List PG) (ks : List LK) (p : Int) (q : Int), (NW ps) → (KW ks) → (ps.length < 3518437208781) → (ks.length < 2513169434844) → q_onlyTo [.agg [.row false 3 (ps.map pv), .row false 5 (ks.map kv)], .fn 98 [.rp 1 [[.int .i64 p]] 0 0, .rp 1 [[.int .i64 q]] 0 0]] = some (.tup [.int .i64 (linkToO ps ks p q).1, .bool (linkToO ps ks p q).2]) := by
  intro ps ks p q hc1 hc2 hc3 hc4
  refine kgr_eq (fun xs0 rr r2 h h2 => ?_) ⟨ps, ks, p, q, hc1, hc2, hc3, hc4, rfl, rfl⟩
  obtain ⟨ps1, ks1, p1, q1, _, _, _, _, e1, rfl⟩ := h; obtain ⟨ps2, ks2, p2, q2, _, _, _, _, e2, rfl⟩ := h2
  rw [e1] at e2
  simp only [List.cons.injEq, A.int.injEq, A.agg.injEq, A.row.injEq, A.fn.injEq, A.rp.injEq, pv_inj, kv_inj, true_and, and_true] at e2
  obtain ⟨⟨e3, e4⟩, e5, e6⟩ := e2
  subst e3 e4 e5 e6
  rfl

theorem ok_implLinkTo : Kn.ok Try.prog (kof [(96, q_onlyTo)]) := kof_cons k_onlyTo ((kof_nil _))
theorem implLinkTo_ac (ps : List PG) (ks : List LK) (p : Int) (q : Int) (hc1 : NW ps) (hc2 : KW ks) (hc3 : ps.length < 3518437208781) (hc4 : ks.length < 2513169434844) : AC Try.prog 35 [.agg [.row false 3 (ps.map pv), .row false 5 (ks.map kv)], .int .i64 p, .int .i64 q] (.tup [.int .i64 (linkToO ps ks p q).1, .bool (linkToO ps ks p q).2]) := by
  have e_onlyTo := e_onlyTo
  refine AC.of tab_ok Try.func35 rfl (Nat.le_of_ble_eq_true rfl) fun w0 S0 => ?_
  change G _ _ ⟨[(0, .agg [.row false 3 (ps.map pv), .row false 5 (ks.map kv)]), (1, .int .i64 p), (2, .int .i64 q)], [], 13⟩
  apply G.seq
  refine G.rg tab_ok ok_implLinkTo (hk := ?_)
  apply G.seq
  refine G.rg tab_ok ok_implLinkTo (hk := ?_)
  refine G.fin tab_ok (hr := ?_)
  rfl
def r_implLinkTo (xs0 : List A) (rr : A) : Prop := ∃ (ps : List PG) (ks : List LK) (p : Int) (q : Int), (NW ps) ∧ (KW ks) ∧ (ps.length < 3518437208781) ∧ (ks.length < 2513169434844) ∧ xs0 = [.agg [.row false 3 (ps.map pv), .row false 5 (ks.map kv)], .int .i64 p, .int .i64 q] ∧ rr = .tup [.int .i64 (linkToO ps ks p q).1, .bool (linkToO ps ks p q).2]
noncomputable def q_implLinkTo : List A → Option A := kgr r_implLinkTo
theorem k_implLinkTo : KOk Try.prog (35, q_implLinkTo) := kgr_ok (enters_of Try.func35 rfl rfl) (by rintro xs0 rr ⟨ps, ks, p, q, hc1, hc2, hc3, hc4, rfl, rfl⟩; exact implLinkTo_ac ps ks p q hc1 hc2 hc3 hc4)
theorem e_implLinkTo : ∀ (ps : List PG) (ks : List LK) (p : Int) (q : Int), (NW ps) → (KW ks) → (ps.length < 3518437208781) → (ks.length < 2513169434844) → q_implLinkTo [.agg [.row false 3 (ps.map pv), .row false 5 (ks.map kv)], .int .i64 p, .int .i64 q] = some (.tup [.int .i64 (linkToO ps ks p q).1, .bool (linkToO ps ks p q).2]) := by
  intro ps ks p q hc1 hc2 hc3 hc4
  refine kgr_eq (fun xs0 rr r2 h h2 => ?_) ⟨ps, ks, p, q, hc1, hc2, hc3, hc4, rfl, rfl⟩
  obtain ⟨ps1, ks1, p1, q1, _, _, _, _, e1, rfl⟩ := h; obtain ⟨ps2, ks2, p2, q2, _, _, _, _, e2, rfl⟩ := h2
  rw [e1] at e2
  simp only [List.cons.injEq, A.int.injEq, A.agg.injEq, A.row.injEq, A.fn.injEq, A.rp.injEq, pv_inj, kv_inj, true_and, and_true] at e2
  obtain ⟨⟨e3, e4⟩, e5, e6⟩ := e2
  subst e3 e4 e5 e6
  rfl

theorem ok_specLinkTo : Kn.ok Try.prog (kof [(28, q_specIsNetwork), (94, q_l3Has), (95, q_l1In), (90, q_l3To)]) := kof_cons k_specIsNetwork (kof_cons k_l3Has (kof_cons k_l1In (kof_cons k_l3To ((kof_nil _)))))
theorem specLinkTo_ac (ps : List PG) (ks : List LK) (p : Int) (q : Int) (hc1 : NW ps) (hc2 : KW ks) (hc3 : ps.length < 3518437208781) (hc4 : ks.length < 2513169434844) : AC Try.prog 34 [.agg [.row false 3 (ps.map pv), .row false 5 (ks.map kv)], .int .i64 p, .int .i64 q] (.tup [.int .i64 (linkToO ps ks p q).1, .bool (linkToO ps ks p q).2]) := by
  have e_specIsNetwork := e_specIsNetwork
  have e_l3Has := e_l3Has
  have e_l1In := e_l1In
  have e_l3To := e_l3To
  have hft : (false == true) = false := rfl
  have htf : (true == false) = false := rfl
  refine AC.of tab_ok Try.func34 rfl (Nat.le_of_ble_eq_true rfl) fun w0 S0 => ?_
  change G _ _ ⟨[(0, .agg [.row false 3 (ps.map pv), .row false 5 (ks.map kv)]), (1, .int .i64 p), (2, .int .i64 q)], [], 33⟩
  apply G.seq
  refine G.rg tab_ok ok_specLinkTo (hk := ?_)
  apply G.seq
  apply G.seq
  rcases (show netOk ps ks = false ∨ (netOk ps ks = true ∧ hasP ps p = false) ∨ (netOk ps ks = true ∧ hasP ps p = true) by cases netOk ps ks <;> cases hasP ps p <;> simp) with c1 | ⟨c1, c2⟩ | ⟨c1, c2⟩
  · skip
    refine G.rgN 4 tab_ok ok_specLinkTo (hk := ?_)
    refine G.rdC tab_ok ok_specLinkTo (hk := ?_)
    refine G.iffT (h1 := ?_)
    apply G.seq
    refine G.rg tab_ok ok_specLinkTo (hk := ?_)
    refine G.fin tab_ok (hr := ?_)
    simp only [oneOrTup]
    rw [toO_bad c1]
  · skip
    refine G.rgN 4 tab_ok ok_specLinkTo (hk := ?_)
    refine G.rdC tab_ok ok_specLinkTo (hk := ?_)
    refine G.iffT (h1 := ?_)
    apply G.seq
    refine G.rg tab_ok ok_specLinkTo (hk := ?_)
    refine G.fin tab_ok (hr := ?_)
    simp only [oneOrTup]
    rw [toO_has c2]
  · skip
    obtain ⟨p0, p1⟩ := hasP_iff.1 c2
    have p2 := hasP_lt c2
    have hpb := pg_bd (netOk_w c1).pg p2
    obtain ⟨⟨b1, b2⟩, ⟨b3, b4⟩, _⟩ := hpb
    have hw1 : IntKind.i64.wrap ((ps.getD p.toNat default).i - 1) = (ps.getD p.toNat default).i - 1 := wrap64 (by omega) (by omega)
    have hw2 : IntKind.i64.wrap ((ps.getD p.toNat default).o - 1) = (ps.getD p.toNat default).o - 1 := wrap64 (by omega) (by omega)
    refine G.rg tab_ok ok_specLinkTo (hk := ?_)
    refine G.fg [1, 2, 3, 28] (hk := ?_)
    refine G.iff (h1 := fun h3 => ?_) (h2 := fun h3 => ?_)
    · try simp only [decide_eq_true_eq, decide_eq_false_iff_not, Bool.and_eq_true, Bool.and_eq_false_imp, Bool.or_eq_true, Bool.or_eq_false_iff, Bool.not_eq_true', Bool.not_eq_false', bne_iff_ne, beq_iff_eq, bne_eq_false_iff_eq, beq_eq_false_iff_ne, ne_eq, Int.ofNat_lt, Int.not_lt, Int.not_le, Int.ofNat_le, Nat.not_lt, Nat.not_le, gt_iff_lt, ge_iff_le] at h3
      apply G.seq
      refine G.rg tab_ok ok_specLinkTo (hk := ?_)
      refine G.fin tab_ok (hr := ?_)
      have hq : inR q 0 ((ps.getD p.toNat default).i - 1) = false := by
        rw [Bool.eq_false_iff]
        intro hh
        simp only [inR, Bool.and_eq_true, decide_eq_true_eq] at hh
        omega
      simp only [oneOrTup]
      rw [toO_in hq]
    · try simp only [decide_eq_true_eq, decide_eq_false_iff_not, Bool.and_eq_true, Bool.and_eq_false_imp, Bool.or_eq_true, Bool.or_eq_false_iff, Bool.not_eq_true', Bool.not_eq_false', bne_iff_ne, beq_iff_eq, bne_eq_false_iff_eq, beq_eq_false_iff_ne, ne_eq, Int.ofNat_lt, Int.not_lt, Int.not_le, Int.ofNat_le, Nat.not_lt, Nat.not_le, gt_iff_lt, ge_iff_le] at h3
      apply G.skip
      apply G.seq
      refine G.rg tab_ok ok_specLinkTo (hk := ?_)
      refine G.fin tab_ok (hr := ?_)
      have hq : inR q 0 ((ps.getD p.toNat default).i - 1) = true := by
        simp only [inR, Bool.and_eq_true, decide_eq_true_eq]
        omega
      simp only [oneOrTup]
      rw [toO_yes c1 c2 hq]
def r_specLinkTo (xs0 : List A) (rr : A) : Prop := ∃ (ps : List PG) (ks : List LK) (p : Int) (q : Int), (NW ps) ∧ (KW ks) ∧ (ps.length < 3518437208781) ∧ (ks.length < 2513169434844) ∧ xs0 = [.agg [.row false 3 (ps.map pv), .row false 5 (ks.map kv)], .int .i64 p, .int .i64 q] ∧ rr = .tup [.int .i64 (linkToO ps ks p q).1, .bool (linkToO ps ks p q).2]
noncomputable def q_specLinkTo : List A → Option A := kgr r_specLinkTo
theorem k_specLinkTo : KOk Try.prog (34, q_specLinkTo) := kgr_ok (enters_of Try.func34 rfl rfl) (by rintro xs0 rr ⟨ps, ks, p, q, hc1, hc2, hc3, hc4, rfl, rfl⟩; exact specLinkTo_ac ps ks p q hc1 hc2 hc3 hc4)
theorem e_specLinkTo : ∀ (ps : List PG) (ks : List LK) (p : Int) (q : Int), (NW ps) → (KW ks) → (ps.length < 3518437208781) → (ks.length < 2513169434844) → q_specLinkTo [.agg [.row false 3 (ps.map pv), .row false 5 (ks.map kv)], .int .i64 p, .int .i64 q] = some (.tup [.int .i64 (linkToO ps ks p q).1, .bool (linkToO ps ks p q).2]) := by
  intro ps ks p q hc1 hc2 hc3 hc4
  refine kgr_eq (fun xs0 rr r2 h h2 => ?_) ⟨ps, ks, p, q, hc1, hc2, hc3, hc4, rfl, rfl⟩
  obtain ⟨ps1, ks1, p1, q1, _, _, _, _, e1, rfl⟩ := h; obtain ⟨ps2, ks2, p2, q2, _, _, _, _, e2, rfl⟩ := h2
  rw [e1] at e2
  simp only [List.cons.injEq, A.int.injEq, A.agg.injEq, A.row.injEq, A.fn.injEq, A.rp.injEq, pv_inj, kv_inj, true_and, and_true] at e2
  obtain ⟨⟨e3, e4⟩, e5, e6⟩ := e2
  subst e3 e4 e5 e6
  rfl

theorem linkFr1_ac (fr : Int) (ou : Int) (to : Int) (ip : Int) (tk : List Int) (p : Int) (q : Int)  : AC Try.prog 97 [.agg [.int .i64 fr, .int .i64 ou, .int .i64 to, .int .i64 ip, .row false 1 (tk.map iv)], .rp 1 [[.int .i64 p]] 0 0, .rp 1 [[.int .i64 q]] 0 0] (.bool (isFrC p q ⟨fr, ou, to, ip, tk⟩)) := by
  refine AC.of tab_ok Try.func97 rfl (Nat.le_of_ble_eq_true rfl) fun w0 S0 => ?_
  change G _ _ ⟨[(0, .agg [.int .i64 fr, .int .i64 ou, .int .i64 to, .int .i64 ip, .row false 1 (tk.map iv)]), (1, .rp 1 [[.int .i64 p]] 0 0), (2, .rp 1 [[.int .i64 q]] 0 0)], [], 19⟩
  apply G.seq
  refine G.rg tab_ok (kof_nil _) (hk := ?_)
  apply G.seq
  refine G.rg tab_ok (kof_nil _) (hk := ?_)
  refine G.fin tab_ok (hr := ?_)
  rfl
def r_linkFr1 (xs0 : List A) (rr : A) : Prop := ∃ (fr : Int) (ou : Int) (to : Int) (ip : Int) (tk : List Int) (p : Int) (q : Int), xs0 = [.agg [.int .i64 fr, .int .i64 ou, .int .i64 to, .int .i64 ip, .row false 1 (tk.map iv)], .rp 1 [[.int .i64 p]] 0 0, .rp 1 [[.int .i64 q]] 0 0] ∧ rr = .bool (isFrC p q ⟨fr, ou, to, ip, tk⟩)
noncomputable def q_linkFr1 : List A → Option A := kgr r_linkFr1
theorem k_linkFr1 : KOk Try.prog (97, q_linkFr1) := kgr_ok (enters_of Try.func97 rfl rfl) (by rintro xs0 rr ⟨fr, ou, to, ip, tk, p, q, rfl, rfl⟩; exact linkFr1_ac fr ou to ip tk p q)
theorem e_linkFr1 : ∀ (fr : Int) (ou : Int) (to : Int) (ip : Int) (tk : List Int) (p : Int) (q : Int), q_linkFr1 [.agg [.int .i64 fr, .int .i64 ou, .int .i64 to, .int .i64 ip, .row false 1 (tk.map iv)], .rp 1 [[.int .i64 p]] 0 0, .rp 1 [[.int .i64 q]] 0 0] = some (.bool (isFrC p q ⟨fr, ou, to, ip, tk⟩)) := by
  intro fr ou to ip tk p q
  refine kgr_eq (fun xs0 rr r2 h h2 => ?_) ⟨fr, ou, to, ip, tk, p, q, rfl, rfl⟩
  obtain ⟨fr1, ou1, to1, ip1, tk1, p1, q1, e1, rfl⟩ := h; obtain ⟨fr2, ou2, to2, ip2, tk2, p2, q2, e2, rfl⟩ := h2
  rw [e1] at e2
  simp only [List.cons.injEq, A.int.injEq, A.agg.injEq, A.row.injEq, A.rp.injEq, iv_inj, true_and, and_true] at e2
  simp [e2]

theorem ok_idxFr : Kn.ok Try.prog (kof [(97, q_linkFr1)]) := kof_cons k_linkFr1 ((kof_nil _))
theorem idxFr_ac (ks : List LK) (p : Int) (q : Int) (hc1 : ks.length < 2513169434844) : AC Try.prog 148 [.row false 5 (ks.map kv), .fn 97 [.rp 1 [[.int .i64 p]] 0 0, .rp 1 [[.int .i64 q]] 0 0]] (.int .i64 (gidx (isFrC p q) ks)) := by
  have e_linkFr1 := e_linkFr1
  refine AC.of tab_ok Try.func148 rfl (Nat.le_of_ble_eq_true rfl) fun w0 S0 => ?_
  change G _ _ ⟨[(0, .row false 5 (ks.map kv)), (1, .fn 97 [.rp 1 [[.int .i64 p]] 0 0, .rp 1 [[.int .i64 q]] 0 0])], [], 19⟩
  apply G.seq
  refine G.rg tab_ok ok_idxFr (hk := ?_)
  apply G.seq
  apply G.seq
  refine G.rg tab_ok ok_idxFr (hk := ?_)
  apply G.block
  refine G.cn [0, 1, 7, 8] [] (h := ?_)
  refine G.loopX (fun j : Nat => ⟨[(0, .row false 5 (ks.map kv)), (1, .fn 97 [.rp 1 [[.int .i64 p]] 0 0, .rp 1 [[.int .i64 q]] 0 0]), (7, .int .i64 ks.length), (8, .int .i64 j)], [], 19⟩) (fun j => j ≤ ks.length ∧ ∀ k < j, (isFrC p q) (ks.getD k default) = false) (fun j => ks.length - j) (0) (⟨Nat.zero_le _, by omega⟩) (rfl) ?_
  intro j hj J hJ
  obtain ⟨hj, hall⟩ := hj
  have hw : IntKind.i64.wrap ((j : Int) + 1) = (j : Int) + 1 := wrap64 (by omega) (by omega)
  apply G.seq
  refine G.rg tab_ok ok_idxFr (hk := ?_)
  apply G.seq
  refine G.iff (h1 := fun h1 => ?_) (h2 := fun h1 => ?_)
  · try simp only [decide_eq_true_eq, decide_eq_false_iff_not, Bool.and_eq_true, Bool.and_eq_false_imp, Bool.or_eq_true, Bool.or_eq_false_iff, Bool.not_eq_true', Bool.not_eq_false', bne_iff_ne, beq_iff_eq, bne_eq_false_iff_eq, beq_eq_false_iff_ne, ne_eq, Int.ofNat_lt, Int.not_lt, Int.not_le, Int.ofNat_le, Nat.not_lt, Nat.not_le, gt_iff_lt, ge_iff_le] at h1
    apply G.skip
    apply G.seq
    apply G.block
    apply G.seq
    refine G.rg tab_ok ok_idxFr (hk := ?_)
    apply G.seq
    refine G.rg tab_ok ok_idxFr (hk := ?_)
    refine G.fg [0, 1, 5, 7, 8, 16] (hk := ?_)
    refine G.iff (h1 := fun h2 => ?_) (h2 := fun h2 => ?_)
    · try simp only [decide_eq_true_eq, decide_eq_false_iff_not, Bool.and_eq_true, Bool.and_eq_false_imp, Bool.or_eq_true, Bool.or_eq_false_iff, Bool.not_eq_true', Bool.not_eq_false', bne_iff_ne, beq_iff_eq, bne_eq_false_iff_eq, beq_eq_false_iff_ne, ne_eq, Int.ofNat_lt, Int.not_lt, Int.not_le, Int.ofNat_le, Nat.not_lt, Nat.not_le, gt_iff_lt, ge_iff_le] at h2
      apply G.seq
      refine G.rg tab_ok ok_idxFr (hk := ?_)
      refine G.fin tab_ok (hr := ?_)
      simp only [oneOrTup]
      congr 1
      exact (gidx_some (p := (isFrC p q)) h1 hall h2).symm
    · try simp only [decide_eq_true_eq, decide_eq_false_iff_not, Bool.and_eq_true, Bool.and_eq_false_imp, Bool.or_eq_true, Bool.or_eq_false_iff, Bool.not_eq_true', Bool.not_eq_false', bne_iff_ne, beq_iff_eq, bne_eq_false_iff_eq, beq_eq_false_iff_ne, ne_eq, Int.ofNat_lt, Int.not_lt, Int.not_le, Int.ofNat_le, Nat.not_lt, Nat.not_le, gt_iff_lt, ge_iff_le] at h2
      apply G.skip
      apply G.blk
      refine G.rg tab_ok ok_idxFr (hk := ?_)
      refine G.cn [0, 1, 7, 8] [] (h := ?_)
      exact G.upto (hJ (j + 1) ⟨by omega, gupto (p := (isFrC p q)) hall h2⟩ (by omega)) (by simp)
  · try simp only [decide_eq_true_eq, decide_eq_false_iff_not, Bool.and_eq_true, Bool.and_eq_false_imp, Bool.or_eq_true, Bool.or_eq_false_iff, Bool.not_eq_true', Bool.not_eq_false', bne_iff_ne, beq_iff_eq, bne_eq_false_iff_eq, beq_eq_false_iff_ne, ne_eq, Int.ofNat_lt, Int.not_lt, Int.not_le, Int.ofNat_le, Nat.not_lt, Nat.not_le, gt_iff_lt, ge_iff_le] at h1
    refine G.exit rfl ?_
    apply G.seq
    refine G.rg tab_ok ok_idxFr (hk := ?_)
    refine G.fin tab_ok (hr := ?_)
    simp only [oneOrTup]
    congr 1
    exact (gidx_none (fun k hk => hall k (by omega))).symm
def r_idxFr (xs0 : List A) (rr : A) : Prop := ∃ (ks : List LK) (p : Int) (q : Int), (ks.length < 2513169434844) ∧ xs0 = [.row false 5 (ks.map kv), .fn 97 [.rp 1 [[.int .i64 p]] 0 0, .rp 1 [[.int .i64 q]] 0 0]] ∧ rr = .int .i64 (gidx (isFrC p q) ks)
noncomputable def q_idxFr : List A → Option A := kgr r_idxFr
theorem k_idxFr : KOk Try.prog (148, q_idxFr) := kgr_ok (enters_of Try.func148 rfl rfl) (by rintro xs0 rr ⟨ks, p, q, hc1, rfl, rfl⟩; exact idxFr_ac ks p q hc1)
theorem e_idxFr : ∀ (ks : List LK) (p : Int) (q : Int), (ks.length < 2513169434844) → q_idxFr [.row false 5 (ks.map kv), .fn 97 [.rp 1 [[.int .i64 p]] 0 0, .rp 1 [[.int .i64 q]] 0 0]] = some (.int .i64 (gidx (isFrC p q) ks)) := by
  intro ks p q hc1
  refine kgr_eq (fun xs0 rr r2 h h2 => ?_) ⟨ks, p, q, hc1, rfl, rfl⟩
  obtain ⟨ks1, p1, q1, _, e1, rfl⟩ := h; obtain ⟨ks2, p2, q2, _, e2, rfl⟩ := h2
  rw [e1] at e2
  simp only [List.cons.injEq, A.int.injEq, A.agg.injEq, A.row.injEq, A.fn.injEq, A.rp.injEq, pv_inj, kv_inj, true_and, and_true] at e2
  obtain ⟨e3, e5, e6⟩ := e2
  subst e3 e5 e6
  rfl

theorem ok_onlyFr : Kn.ok Try.prog (kof [(30, q_implIsNetwork), (148, q_idxFr)]) := kof_cons k_implIsNetwork (kof_cons k_idxFr ((kof_nil _)))
theorem onlyFr_ac (ps : List PG) (ks : List LK) (p : Int) (q : Int) (hc1 : NW ps) (hc2 : KW ks) (hc3 : ps.length < 3518437208781) (hc4 : ks.length < 2513169434844) : AC Try.prog 96 [.agg [.row false 3 (ps.map pv), .row false 5 (ks.map kv)], .fn 97 [.rp 1 [[.int .i64 p]] 0 0, .rp 1 [[.int .i64 q]] 0 0]] (.tup [.int .i64 (linkFrO ps ks p q).1, .bool (linkFrO ps ks p q).2]) := by
  have e_implIsNetwork := e_implIsNetwork
  have e_idxFr := e_idxFr
  refine AC.of tab_ok Try.func96 rfl (Nat.le_of_ble_eq_true rfl) fun w0 S0 => ?_
  change G _ _ ⟨[(0, .agg [.row false 3 (ps.map pv), .row false 5 (ks.map kv)]), (1, .fn 97 [.rp 1 [[.int .i64 p]] 0 0, .rp 1 [[.int .i64 q]] 0 0])], [], 17⟩
  apply G.seq
  refine G.rg tab_ok ok_onlyFr (hk := ?_)
  apply G.seq
  apply G.seq
  refine G.rg tab_ok ok_onlyFr (hk := ?_)
  refine G.iff (h1 := fun h1 => ?_) (h2 := fun h1 => ?_)
  · try simp only [decide_eq_true_eq, decide_eq_false_iff_not, Bool.and_eq_true, Bool.and_eq_false_imp, Bool.or_eq_true, Bool.or_eq_false_iff, Bool.not_eq_true', Bool.not_eq_false', bne_iff_ne, beq_iff_eq, bne_eq_false_iff_eq, beq_eq_false_iff_ne, ne_eq, Int.ofNat_lt, Int.not_lt, Int.not_le, Int.ofNat_le, Nat.not_lt, Nat.not_le, gt_iff_lt, ge_iff_le] at h1
    apply G.seq
    refine G.rg tab_ok ok_onlyFr (hk := ?_)
    refine G.fin tab_ok (hr := ?_)
    simp only [oneOrTup]
    rw [frO_bad h1]
  · try simp only [decide_eq_true_eq, decide_eq_false_iff_not, Bool.and_eq_true, Bool.and_eq_false_imp, Bool.or_eq_true, Bool.or_eq_false_iff, Bool.not_eq_true', Bool.not_eq_false', bne_iff_ne, beq_iff_eq, bne_eq_false_iff_eq, beq_eq_false_iff_ne, ne_eq, Int.ofNat_lt, Int.not_lt, Int.not_le, Int.ofNat_le, Nat.not_lt, Nat.not_le, gt_iff_lt, ge_iff_le] at h1
    apply G.skip
    apply G.seq
    refine G.rg tab_ok ok_onlyFr (hk := ?_)
    apply G.seq
    apply G.seq
    refine G.rg tab_ok ok_onlyFr (hk := ?_)
    refine G.fg [6, 15] (hk := ?_)
    refine G.iff (h1 := fun h2 => ?_) (h2 := fun h2 => ?_)
    · try simp only [decide_eq_true_eq, decide_eq_false_iff_not, Bool.and_eq_true, Bool.and_eq_false_imp, Bool.or_eq_true, Bool.or_eq_false_iff, Bool.not_eq_true', Bool.not_eq_false', bne_iff_ne, beq_iff_eq, bne_eq_false_iff_eq, beq_eq_false_iff_ne, ne_eq, Int.ofNat_lt, Int.not_lt, Int.not_le, Int.ofNat_le, Nat.not_lt, Nat.not_le, gt_iff_lt, ge_iff_le] at h2
      apply G.seq
      refine G.rg tab_ok ok_onlyFr (hk := ?_)
      refine G.fin tab_ok (hr := ?_)
      have hh := linkFr_at (p := p) (q := q) h1
      rw [if_pos h2] at hh
      simp only [oneOrTup]
      rw [← hh]
    · try simp only [decide_eq_true_eq, decide_eq_false_iff_not, Bool.and_eq_true, Bool.and_eq_false_imp, Bool.or_eq_true, Bool.or_eq_false_iff, Bool.not_eq_true', Bool.not_eq_false', bne_iff_ne, beq_iff_eq, bne_eq_false_iff_eq, beq_eq_false_iff_ne, ne_eq, Int.ofNat_lt, Int.not_lt, Int.not_le, Int.ofNat_le, Nat.not_lt, Nat.not_le, gt_iff_lt, ge_iff_le] at h2
      apply G.skip
      apply G.seq
      refine G.rg tab_ok ok_onlyFr (hk := ?_)
      refine G.fin tab_ok (hr := ?_)
      have hh := linkFr_at (p := p) (q := q) h1
      rw [if_neg (by omega)] at hh
      simp only [oneOrTup]
      rw [← hh]
def r_onlyFr (xs0 : List A) (rr : A) : Prop := ∃ (ps : List PG) (ks : List LK) (p : Int) (q : Int), (NW ps) ∧ (KW ks) ∧ (ps.length < 3518437208781) ∧ (ks.length < 2513169434844) ∧ xs0 = [.agg [.row false 3 (ps.map pv), .row false 5 (ks.map kv)], .fn 97 [.rp 1 [[.int .i64 p]] 0 0, .rp 1 [[.int .i64 q]] 0 0]] ∧ rr = .tup [.int .i64 (linkFrO ps ks p q).1, .bool (linkFrO ps ks p q).2]
noncomputable def q_onlyFr : List A → Option A := kgr r_onlyFr
theorem k_onlyFr : KOk Try.prog (96, q_onlyFr) := kgr_ok (enters_of Try.func96 rfl rfl) (by rintro xs0 rr ⟨ps, ks, p, q, hc1, hc2, hc3, hc4, rfl, rfl⟩; exact onlyFr_ac ps ks p q hc1 hc2 hc3 hc4)
theorem e_onlyFr : ∀ (ps : List PG) (ks : List LK) (p : Int) (q : Int), (NW ps) → (KW ks) → (ps.length < 3518437208781) → (ks.length < 2513169434844) → q_onlyFr [.agg [.row false 3 (ps.map pv), .row false 5 (ks.map kv)], .fn 97 [.rp 1 [[.int .i64 p]] 0 0, .rp 1 [[.int .i64 q]] 0 0]] = some (.tup [.int .i64 (linkFrO ps ks p q).1, .bool (linkFrO ps ks p q).2]) := by
  intro ps ks p q hc1 hc2 hc3 hc4
  refine kgr_eq (fun xs0 rr r2 h h2 => ?_) ⟨ps, ks, p, q, hc1, hc2, hc3, hc4, rfl, rfl⟩
  obtain ⟨ps1, ks1, p1, q1, _, _, _, _, e1, rfl⟩ := h; obtain ⟨ps2, ks2, p2, q2, _, _, _, _, e2, rfl⟩ := h2
  rw [e1] at e2
  simp only [List.cons.injEq, A.int.injEq, A.agg.injEq, A.row.injEq, A.fn.injEq, A.rp.injEq, pv_inj, kv_inj, true_and, and_true] at e2
  obtain ⟨⟨e3, e4⟩, e5, e6⟩ := e2
  subst e3 e4 e5 e6
  rfl

theorem ok_implLinkFrom : Kn.ok Try.prog (kof [(96, q_onlyFr)]) := kof_cons k_onlyFr ((kof_nil _))
theorem implLinkFrom_ac (ps : List PG) (ks : List LK) (p : Int) (q : Int) (hc1 : NW ps) (hc2 : KW ks) (hc3 : ps.length < 3518437208781) (hc4 : ks.length < 2513169434844) : AC Try.prog 33 [.agg [.row false 3 (ps.map pv), .row false 5 (ks.map kv)], .int .i64 p, .int .i64 q] (.tup [.int .i64 (linkFrO ps ks p q).1, .bool (linkFrO ps ks p q).2]) := by
  have e_onlyFr := e_onlyFr
  refine AC.of tab_ok Try.func33 rfl (Nat.le_of_ble_eq_true rfl) fun w0 S0 => ?_
  change G _ _ ⟨[(0, .agg [.row false 3 (ps.map pv), .row false 5 (ks.map kv)]), (1, .int .i64 p), (2, .int .i64 q)], [], 13⟩
  apply G.seq
  refine G.rg tab_ok ok_implLinkFrom (hk := ?_)
  apply G.seq
  refine G.rg tab_ok ok_implLinkFrom (hk := ?_)
  refine G.fin tab_ok (hr := ?_)
  rfl
def r_implLinkFrom (xs0 : List A) (rr : A) : Prop := ∃ (ps : List PG) (ks : List LK) (p : Int) (q : Int), (NW ps) ∧ (KW ks) ∧ (ps.length < 3518437208781) ∧ (ks.length < 2513169434844) ∧ xs0 = [.agg [.row false 3 (ps.map pv), .row false 5 (ks.map kv)], .int .i64 p, .int .i64 q] ∧ rr = .tup [.int .i64 (linkFrO ps ks p q).1, .bool (linkFrO ps ks p q).2]
noncomputable def q_implLinkFrom : List A → Option A := kgr r_implLinkFrom
theorem k_implLinkFrom : KOk Try.prog (33, q_implLinkFrom) := kgr_ok (enters_of Try.func33 rfl rfl) (by rintro xs0 rr ⟨ps, ks, p, q, hc1, hc2, hc3, hc4, rfl, rfl⟩; exact implLinkFrom_ac ps ks p q hc1 hc2 hc3 hc4)
theorem e_implLinkFrom : ∀ (ps : List PG) (ks : List LK) (p : Int) (q : Int), (NW ps) → (KW ks) → (ps.length < 3518437208781) → (ks.length < 2513169434844) → q_implLinkFrom [.agg [.row false 3 (ps.map pv), .row false 5 (ks.map kv)], .int .i64 p, .int .i64 q] = some (.tup [.int .i64 (linkFrO ps ks p q).1, .bool (linkFrO ps ks p q).2]) := by
  intro ps ks p q hc1 hc2 hc3 hc4
  refine kgr_eq (fun xs0 rr r2 h h2 => ?_) ⟨ps, ks, p, q, hc1, hc2, hc3, hc4, rfl, rfl⟩
  obtain ⟨ps1, ks1, p1, q1, _, _, _, _, e1, rfl⟩ := h; obtain ⟨ps2, ks2, p2, q2, _, _, _, _, e2, rfl⟩ := h2
  rw [e1] at e2
  simp only [List.cons.injEq, A.int.injEq, A.agg.injEq, A.row.injEq, A.fn.injEq, A.rp.injEq, pv_inj, kv_inj, true_and, and_true] at e2
  obtain ⟨⟨e3, e4⟩, e5, e6⟩ := e2
  subst e3 e4 e5 e6
  rfl

theorem ok_specLinkFrom : Kn.ok Try.prog (kof [(28, q_specIsNetwork), (94, q_l3Has), (95, q_l1In), (91, q_l3From)]) := kof_cons k_specIsNetwork (kof_cons k_l3Has (kof_cons k_l1In (kof_cons k_l3From ((kof_nil _)))))
theorem specLinkFrom_ac (ps : List PG) (ks : List LK) (p : Int) (q : Int) (hc1 : NW ps) (hc2 : KW ks) (hc3 : ps.length < 3518437208781) (hc4 : ks.length < 2513169434844) : AC Try.prog 32 [.agg [.row false 3 (ps.map pv), .row false 5 (ks.map kv)], .int .i64 p, .int .i64 q] (.tup [.int .i64 (linkFrO ps ks p q).1, .bool (linkFrO ps ks p q).2]) := by
  have e_specIsNetwork := e_specIsNetwork
  have e_l3Has := e_l3Has
  have e_l1In := e_l1In
  have e_l3From := e_l3From
  have hft : (false == true) = false := rfl
  have htf : (true == false) = false := rfl
  refine AC.of tab_ok Try.func32 rfl (Nat.le_of_ble_eq_true rfl) fun w0 S0 => ?_
  change G _ _ ⟨[(0, .agg [.row false 3 (ps.map pv), .row false 5 (ks.map kv)]), (1, .int .i64 p), (2, .int .i64 q)], [], 33⟩
  apply G.seq
  refine G.rg tab_ok ok_specLinkFrom (hk := ?_)
  apply G.seq
  apply G.seq
  rcases (show netOk ps ks = false ∨ (netOk ps ks = true ∧ hasP ps p = false) ∨ (netOk ps ks = true ∧ hasP ps p = true) by cases netOk ps ks <;> cases hasP ps p <;> simp) with c1 | ⟨c1, c2⟩ | ⟨c1, c2⟩
  · skip
    refine G.rgN 4 tab_ok ok_specLinkFrom (hk := ?_)
    refine G.rdC tab_ok ok_specLinkFrom (hk := ?_)
    refine G.iffT (h1 := ?_)
    apply G.seq
    refine G.rg tab_ok ok_specLinkFrom (hk := ?_)
    refine G.fin tab_ok (hr := ?_)
    simp only [oneOrTup]
    rw [frO_bad c1]
  · skip
    refine G.rgN 4 tab_ok ok_specLinkFrom (hk := ?_)
    refine G.rdC tab_ok ok_specLinkFrom (hk := ?_)
    refine G.iffT (h1 := ?_)
    apply G.seq
    refine G.rg tab_ok ok_specLinkFrom (hk := ?_)
    refine G.fin tab_ok (hr := ?_)
    simp only [oneOrTup]
    rw [frO_has c2]
  · skip
    obtain ⟨p0, p1⟩ := hasP_iff.1 c2
    have p2 := hasP_lt c2
    have hpb := pg_bd (netOk_w c1).pg p2
    obtain ⟨⟨b1, b2⟩, ⟨b3, b4⟩, _⟩ := hpb
    have hw1 : IntKind.i64.wrap ((ps.getD p.toNat default).i - 1) = (ps.getD p.toNat default).i - 1 := wrap64 (by omega) (by omega)
    have hw2 : IntKind.i64.wrap ((ps.getD p.toNat default).o - 1) = (ps.getD p.toNat default).o - 1 := wrap64 (by omega) (by omega)
    refine G.rg tab_ok ok_specLinkFrom (hk := ?_)
    refine G.fg [1, 2, 3, 28] (hk := ?_)
    refine G.iff (h1 := fun h3 => ?_) (h2 := fun h3 => ?_)
    · try simp only [decide_eq_true_eq, decide_eq_false_iff_not, Bool.and_eq_true, Bool.and_eq_false_imp, Bool.or_eq_true, Bool.or_eq_false_iff, Bool.not_eq_true', Bool.not_eq_false', bne_iff_ne, beq_iff_eq, bne_eq_false_iff_eq, beq_eq_false_iff_ne, ne_eq, Int.ofNat_lt, Int.not_lt, Int.not_le, Int.ofNat_le, Nat.not_lt, Nat.not_le, gt_iff_lt, ge_iff_le] at h3
      apply G.seq
      refine G.rg tab_ok ok_specLinkFrom (hk := ?_)
      refine G.fin tab_ok (hr := ?_)
      have hq : inR q 0 ((ps.getD p.toNat default).o - 1) = false := by
        rw [Bool.eq_false_iff]
        intro hh
        simp only [inR, Bool.and_eq_true, decide_eq_true_eq] at hh
        omega
      simp only [oneOrTup]
      rw [frO_in hq]
    · try simp only [decide_eq_true_eq, decide_eq_false_iff_not, Bool.and_eq_true, Bool.and_eq_false_imp, Bool.or_eq_true, Bool.or_eq_false_iff, Bool.not_eq_true', Bool.not_eq_false', bne_iff_ne, beq_iff_eq, bne_eq_false_iff_eq, beq_eq_false_iff_ne, ne_eq, Int.ofNat_lt, Int.not_lt, Int.not_le, Int.ofNat_le, Nat.not_lt, Nat.not_le, gt_iff_lt, ge_iff_le] at h3
      apply G.skip
      apply G.seq
      refine G.rg tab_ok ok_specLinkFrom (hk := ?_)
      refine G.fin tab_ok (hr := ?_)
      have hq : inR q 0 ((ps.getD p.toNat default).o - 1) = true := by
        simp only [inR, Bool.and_eq_true, decide_eq_true_eq]
        omega
      simp only [oneOrTup]
      rw [frO_yes c1 c2 hq]
def r_specLinkFrom (xs0 : List A) (rr : A) : Prop := ∃ (ps : List PG) (ks : List LK) (p : Int) (q : Int), (NW ps) ∧ (KW ks) ∧ (ps.length < 3518437208781) ∧ (ks.length < 2513169434844) ∧ xs0 = [.agg [.row false 3 (ps.map pv), .row false 5 (ks.map kv)], .int .i64 p, .int .i64 q] ∧ rr = .tup [.int .i64 (linkFrO ps ks p q).1, .bool (linkFrO ps ks p q).2]
noncomputable def q_specLinkFrom : List A → Option A := kgr r_specLinkFrom
theorem k_specLinkFrom : KOk Try.prog (32, q_specLinkFrom) := kgr_ok (enters_of Try.func32 rfl rfl) (by rintro xs0 rr ⟨ps, ks, p, q, hc1, hc2, hc3, hc4, rfl, rfl⟩; exact specLinkFrom_ac ps ks p q hc1 hc2 hc3 hc4)
theorem e_specLinkFrom : ∀ (ps : List PG) (ks : List LK) (p : Int) (q : Int), (NW ps) → (KW ks) → (ps.length < 3518437208781) → (ks.length < 2513169434844) → q_specLinkFrom [.agg [.row false 3 (ps.map pv), .row false 5 (ks.map kv)], .int .i64 p, .int .i64 q] = some (.tup [.int .i64 (linkFrO ps ks p q).1, .bool (linkFrO ps ks p q).2]) := by
  intro ps ks p q hc1 hc2 hc3 hc4
  refine kgr_eq (fun xs0 rr r2 h h2 => ?_) ⟨ps, ks, p, q, hc1, hc2, hc3, hc4, rfl, rfl⟩
  obtain ⟨ps1, ks1, p1, q1, _, _, _, _, e1, rfl⟩ := h; obtain ⟨ps2, ks2, p2, q2, _, _, _, _, e2, rfl⟩ := h2
  rw [e1] at e2
  simp only [List.cons.injEq, A.int.injEq, A.agg.injEq, A.row.injEq, A.fn.injEq, A.rp.injEq, pv_inj, kv_inj, true_and, and_true] at e2
  obtain ⟨⟨e3, e4⟩, e5, e6⟩ := e2
  subst e3 e4 e5 e6
  rfl

end Go.Proofs.Ytnjonjgjfcbgeaa.Ab
