/- Walks of functions of the program: what each answers, for all arguments that meet its conditions. -/
import Derived.Test.YticgaflgbljhlaaAbNet1
import Derived.Test.YticgaflgbljhlaaAbNet
import Derived.Test.YticgaflgbljhlaaFwB
import Derived.Test.YticgaflgbljhlaaAbAuto2
namespace Go.Proofs.Yticgaflgbljhlaa.Ab
open Go
set_option linter.unusedVariables false
set_option linter.unusedSimpArgs false
set_option maxHeartbeats 4000000

theorem l3To_ac (ps : List PG) (ks : List LK) (p : Int) (q : Int) (hc1 : KW ks) (hc2 : ks.length < 2513169434844) : AC Try.prog 135 [.agg [.row false 3 (ps.map pv), .row false 5 (ks.map kv)], .int .i64 p, .int .i64 q] (.int .i64 (onlyAt (isTo p q) ks)) := by
  refine AC.of tab_ok Try.func135 rfl (Nat.le_of_ble_eq_true rfl) fun w0 S0 => ?_
  change G _ _ ⟨[(0, .agg [.row false 3 (ps.map pv), .row false 5 (ks.map kv)]), (1, .int .i64 p), (2, .int .i64 q)], [], 33⟩
  apply G.seq
  refine G.rg tab_ok (kof_nil _) (hk := ?_)
  apply G.seq
  refine G.rg tab_ok (kof_nil _) (hk := ?_)
  apply G.seq
  apply G.seq
  refine G.rg tab_ok (kof_nil _) (hk := ?_)
  apply G.block
  refine G.cn [1, 2, 7, 11, 12, 13] [] (h := ?_)
  refine G.loopX (fun x : Nat × Int => ⟨[(1, .int .i64 p), (2, .int .i64 q), (7, .int .i64 x.2), (11, .row false 5 (ks.map kv)), (12, .int .i64 ks.length), (13, .int .i64 x.1)], [], 33⟩) (fun x => x.1 ≤ ks.length ∧ onlyUp (isTo p q) ks x.1 x.2) (fun x => ks.length - x.1) ((0, -1)) (⟨Nat.zero_le _, onlyUp_zero⟩) (by simp) ?_
  intro x hx J2 hJ
  obtain ⟨j, a⟩ := x
  simp only at hx ⊢
  obtain ⟨hj, hu⟩ := hx
  have hw : IntKind.i64.wrap ((j : Int) + 1) = (j : Int) + 1 := wrap64 (by omega) (by omega)
  apply G.seq
  refine G.rg tab_ok (kof_nil _) (hk := ?_)
  apply G.seq
  refine G.iff (h1 := fun h1 => ?_) (h2 := fun h1 => ?_)
  · try simp only [decide_eq_true_eq, decide_eq_false_iff_not, Bool.and_eq_true, Bool.and_eq_false_imp, Bool.or_eq_true, Bool.or_eq_false_iff, Bool.not_eq_true', Bool.not_eq_false', bne_iff_ne, beq_iff_eq, bne_eq_false_iff_eq, beq_eq_false_iff_ne, ne_eq, Int.ofNat_lt, Int.not_lt, Int.not_le, Int.ofNat_le, Nat.not_lt, Nat.not_le, gt_iff_lt, ge_iff_le] at h1
    apply G.skip
    apply G.seq
    apply G.block
    apply G.seq
    refine G.rg tab_ok (kof_nil _) (hk := ?_)
    apply G.seq
    refine G.rg tab_ok (kof_nil _) (hk := ?_)
    refine G.fg [1, 2, 7, 8, 11, 12, 13, 27] (hk := ?_)
    refine G.iff (h1 := fun h2 => ?_) (h2 := fun h2 => ?_)
    · try simp only [decide_eq_true_eq, decide_eq_false_iff_not, Bool.and_eq_true, Bool.and_eq_false_imp, Bool.or_eq_true, Bool.or_eq_false_iff, Bool.not_eq_true', Bool.not_eq_false', bne_iff_ne, beq_iff_eq, bne_eq_false_iff_eq, beq_eq_false_iff_ne, ne_eq, Int.ofNat_lt, Int.not_lt, Int.not_le, Int.ofNat_le, Nat.not_lt, Nat.not_le, gt_iff_lt, ge_iff_le] at h2
      apply G.seq
      apply G.seq
      refine G.rg tab_ok (kof_nil _) (hk := ?_)
      refine G.iff (h1 := fun h3 => ?_) (h2 := fun h3 => ?_)
      · try simp only [decide_eq_true_eq, decide_eq_false_iff_not, Bool.and_eq_true, Bool.and_eq_false_imp, Bool.or_eq_true, Bool.or_eq_false_iff, Bool.not_eq_true', Bool.not_eq_false', bne_iff_ne, beq_iff_eq, bne_eq_false_iff_eq, beq_eq_false_iff_ne, ne_eq, Int.ofNat_lt, Int.not_lt, Int.not_le, Int.ofNat_le, Nat.not_lt, Nat.not_le, gt_iff_lt, ge_iff_le] at h3
        apply G.seq
        refine G.rg tab_ok (kof_nil _) (hk := ?_)
        refine G.fin tab_ok (hr := ?_)
        simp only [oneOrTup]
        congr 1
        symm
        exact onlyUp_two hu (by omega) h1 (by simp only [isTo, Bool.and_eq_true, beq_iff_eq]; exact ⟨h2.1, h2.2⟩)
      · try simp only [decide_eq_true_eq, decide_eq_false_iff_not, Bool.and_eq_true, Bool.and_eq_false_imp, Bool.or_eq_true, Bool.or_eq_false_iff, Bool.not_eq_true', Bool.not_eq_false', bne_iff_ne, beq_iff_eq, bne_eq_false_iff_eq, beq_eq_false_iff_ne, ne_eq, Int.ofNat_lt, Int.not_lt, Int.not_le, Int.ofNat_le, Nat.not_lt, Nat.not_le, gt_iff_lt, ge_iff_le] at h3
        apply G.skip
        refine G.rg tab_ok (kof_nil _) (hk := ?_)
        apply G.blk
        refine G.rg tab_ok (kof_nil _) (hk := ?_)
        refine G.cn [1, 2, 7, 11, 12, 13] [] (h := ?_)
        first
        | exact G.upto (hJ (j + 1, (j : Int)) ⟨by simp only; omega, onlyUp_yes hu (by omega) (by simp only [isTo, Bool.and_eq_true, beq_iff_eq]; exact ⟨h2.1, h2.2⟩)⟩ (by simp only; omega)) (by simp)
        | exact G.upto (hJ (j + 1, a) ⟨by simp only; omega, onlyUp_no hu (by rw [Bool.eq_false_iff]; simp only [isTo, ne_eq, Bool.and_eq_true, beq_iff_eq]; exact fun hh => h2 hh.1 hh.2)⟩ (by simp only; omega)) (by simp)
    · try simp only [decide_eq_true_eq, decide_eq_false_iff_not, Bool.and_eq_true, Bool.and_eq_false_imp, Bool.or_eq_true, Bool.or_eq_false_iff, Bool.not_eq_true', Bool.not_eq_false', bne_iff_ne, beq_iff_eq, bne_eq_false_iff_eq, beq_eq_false_iff_ne, ne_eq, Int.ofNat_lt, Int.not_lt, Int.not_le, Int.ofNat_le, Nat.not_lt, Nat.not_le, gt_iff_lt, ge_iff_le] at h2
      apply G.skip
      apply G.blk
      refine G.rg tab_ok (kof_nil _) (hk := ?_)
      refine G.cn [1, 2, 7, 11, 12, 13] [] (h := ?_)
      first
      | exact G.upto (hJ (j + 1, (j : Int)) ⟨by simp only; omega, onlyUp_yes hu (by omega) (by simp only [isTo, Bool.and_eq_true, beq_iff_eq]; exact ⟨h2.1, h2.2⟩)⟩ (by simp only; omega)) (by simp)
      | exact G.upto (hJ (j + 1, a) ⟨by simp only; omega, onlyUp_no hu (by rw [Bool.eq_false_iff]; simp only [isTo, ne_eq, Bool.and_eq_true, beq_iff_eq]; exact fun hh => h2 hh.1 hh.2)⟩ (by simp only; omega)) (by simp)
  · try simp only [decide_eq_true_eq, decide_eq_false_iff_not, Bool.and_eq_true, Bool.and_eq_false_imp, Bool.or_eq_true, Bool.or_eq_false_iff, Bool.not_eq_true', Bool.not_eq_false', bne_iff_ne, beq_iff_eq, bne_eq_false_iff_eq, beq_eq_false_iff_ne, ne_eq, Int.ofNat_lt, Int.not_lt, Int.not_le, Int.ofNat_le, Nat.not_lt, Nat.not_le, gt_iff_lt, ge_iff_le] at h1
    refine G.exit rfl ?_
    apply G.seq
    refine G.rg tab_ok (kof_nil _) (hk := ?_)
    obtain rfl : j = ks.length := by omega
    refine G.fin tab_ok (hr := ?_)
    simp only [oneOrTup]
    congr 1
    exact (onlyUp_end hu).symm
def r_l3To (xs0 : List A) (rr : A) : Prop := ∃ (ps : List PG) (ks : List LK) (p : Int) (q : Int), (KW ks) ∧ (ks.length < 2513169434844) ∧ xs0 = [.agg [.row false 3 (ps.map pv), .row false 5 (ks.map kv)], .int .i64 p, .int .i64 q] ∧ rr = .int .i64 (onlyAt (isTo p q) ks)
noncomputable def q_l3To : List A → Option A := kgr r_l3To
theorem k_l3To : KOk Try.prog (135, q_l3To) := kgr_ok (enters_of Try.func135 rfl rfl) (by rintro xs0 rr ⟨ps, ks, p, q, hc1, hc2, rfl, rfl⟩; exact l3To_ac ps ks p q hc1 hc2)
theorem e_l3To : ∀ (ps : List PG) (ks : List LK) (p : Int) (q : Int), (KW ks) → (ks.length < 2513169434844) → q_l3To [.agg [.row false 3 (ps.map pv), .row false 5 (ks.map kv)], .int .i64 p, .int .i64 q] = some (.int .i64 (onlyAt (isTo p q) ks)) := by
  intro ps ks p q hc1 hc2
  refine kgr_eq (fun xs0 rr r2 h h2 => ?_) ⟨ps, ks, p, q, hc1, hc2, rfl, rfl⟩
  obtain ⟨ps1, ks1, p1, q1, _, _, e1, rfl⟩ := h; obtain ⟨ps2, ks2, p2, q2, _, _, e2, rfl⟩ := h2
  rw [e1] at e2
  simp only [List.cons.injEq, A.int.injEq, A.agg.injEq, A.row.injEq, pv_inj, kv_inj, true_and, and_true] at e2
  obtain ⟨⟨e3, e4⟩, e5, e6⟩ := e2
  subst e3 e4 e5 e6
  rfl

theorem l3From_ac (ps : List PG) (ks : List LK) (p : Int) (q : Int) (hc1 : KW ks) (hc2 : ks.length < 2513169434844) : AC Try.prog 136 [.agg [.row false 3 (ps.map pv), .row false 5 (ks.map kv)], .int .i64 p, .int .i64 q] (.int .i64 (onlyAt (isFr p q) ks)) := by
  refine AC.of tab_ok Try.func136 rfl (Nat.le_of_ble_eq_true rfl) fun w0 S0 => ?_
  change G _ _ ⟨[(0, .agg [.row false 3 (ps.map pv), .row false 5 (ks.map kv)]), (1, .int .i64 p), (2, .int .i64 q)], [], 33⟩
  apply G.seq
  refine G.rg tab_ok (kof_nil _) (hk := ?_)
  apply G.seq
  refine G.rg tab_ok (kof_nil _) (hk := ?_)
  apply G.seq
  apply G.seq
  refine G.rg tab_ok (kof_nil _) (hk := ?_)
  apply G.block
  refine G.cn [1, 2, 7, 11, 12, 13] [] (h := ?_)
  refine G.loopX (fun x : Nat × Int => ⟨[(1, .int .i64 p), (2, .int .i64 q), (7, .int .i64 x.2), (11, .row false 5 (ks.map kv)), (12, .int .i64 ks.length), (13, .int .i64 x.1)], [], 33⟩) (fun x => x.1 ≤ ks.length ∧ onlyUp (isFr p q) ks x.1 x.2) (fun x => ks.length - x.1) ((0, -1)) (⟨Nat.zero_le _, onlyUp_zero⟩) (by simp) ?_
  intro x hx J2 hJ
  obtain ⟨j, a⟩ := x
  simp only at hx ⊢
  obtain ⟨hj, hu⟩ := hx
  have hw : IntKind.i64.wrap ((j : Int) + 1) = (j : Int) + 1 := wrap64 (by omega) (by omega)
  apply G.seq
  refine G.rg tab_ok (kof_nil _) (hk := ?_)
  apply G.seq
  refine G.iff (h1 := fun h1 => ?_) (h2 := fun h1 => ?_)
  · try simp only [decide_eq_true_eq, decide_eq_false_iff_not, Bool.and_eq_true, Bool.and_eq_false_imp, Bool.or_eq_true, Bool.or_eq_false_iff, Bool.not_eq_true', Bool.not_eq_false', bne_iff_ne, beq_iff_eq, bne_eq_false_iff_eq, beq_eq_false_iff_ne, ne_eq, Int.ofNat_lt, Int.not_lt, Int.not_le, Int.ofNat_le, Nat.not_lt, Nat.not_le, gt_iff_lt, ge_iff_le] at h1
    apply G.skip
    apply G.seq
    apply G.block
    apply G.seq
    refine G.rg tab_ok (kof_nil _) (hk := ?_)
    apply G.seq
    refine G.rg tab_ok (kof_nil _) (hk := ?_)
    refine G.fg [1, 2, 7, 8, 11, 12, 13, 27] (hk := ?_)
    refine G.iff (h1 := fun h2 => ?_) (h2 := fun h2 => ?_)
    · try simp only [decide_eq_true_eq, decide_eq_false_iff_not, Bool.and_eq_true, Bool.and_eq_false_imp, Bool.or_eq_true, Bool.or_eq_false_iff, Bool.not_eq_true', Bool.not_eq_false', bne_iff_ne, beq_iff_eq, bne_eq_false_iff_eq, beq_eq_false_iff_ne, ne_eq, Int.ofNat_lt, Int.not_lt, Int.not_le, Int.ofNat_le, Nat.not_lt, Nat.not_le, gt_iff_lt, ge_iff_le] at h2
      apply G.seq
      apply G.seq
      refine G.rg tab_ok (kof_nil _) (hk := ?_)
      refine G.iff (h1 := fun h3 => ?_) (h2 := fun h3 => ?_)
      · try simp only [decide_eq_true_eq, decide_eq_false_iff_not, Bool.and_eq_true, Bool.and_eq_false_imp, Bool.or_eq_true, Bool.or_eq_false_iff, Bool.not_eq_true', Bool.not_eq_false', bne_iff_ne, beq_iff_eq, bne_eq_false_iff_eq, beq_eq_false_iff_ne, ne_eq, Int.ofNat_lt, Int.not_lt, Int.not_le, Int.ofNat_le, Nat.not_lt, Nat.not_le, gt_iff_lt, ge_iff_le] at h3
        apply G.seq
        refine G.rg tab_ok (kof_nil _) (hk := ?_)
        refine G.fin tab_ok (hr := ?_)
        simp only [oneOrTup]
        congr 1
        symm
        exact onlyUp_two hu (by omega) h1 (by simp only [isFr, Bool.and_eq_true, beq_iff_eq]; exact ⟨h2.1, h2.2⟩)
      · try simp only [decide_eq_true_eq, decide_eq_false_iff_not, Bool.and_eq_true, Bool.and_eq_false_imp, Bool.or_eq_true, Bool.or_eq_false_iff, Bool.not_eq_true', Bool.not_eq_false', bne_iff_ne, beq_iff_eq, bne_eq_false_iff_eq, beq_eq_false_iff_ne, ne_eq, Int.ofNat_lt, Int.not_lt, Int.not_le, Int.ofNat_le, Nat.not_lt, Nat.not_le, gt_iff_lt, ge_iff_le] at h3
        apply G.skip
        refine G.rg tab_ok (kof_nil _) (hk := ?_)
        apply G.blk
        refine G.rg tab_ok (kof_nil _) (hk := ?_)
        refine G.cn [1, 2, 7, 11, 12, 13] [] (h := ?_)
        first
        | exact G.upto (hJ (j + 1, (j : Int)) ⟨by simp only; omega, onlyUp_yes hu (by omega) (by simp only [isFr, Bool.and_eq_true, beq_iff_eq]; exact ⟨h2.1, h2.2⟩)⟩ (by simp only; omega)) (by simp)
        | exact G.upto (hJ (j + 1, a) ⟨by simp only; omega, onlyUp_no hu (by rw [Bool.eq_false_iff]; simp only [isFr, ne_eq, Bool.and_eq_true, beq_iff_eq]; exact fun hh => h2 hh.1 hh.2)⟩ (by simp only; omega)) (by simp)
    · try simp only [decide_eq_true_eq, decide_eq_false_iff_not, Bool.and_eq_true, Bool.and_eq_false_imp, Bool.or_eq_true, Bool.or_eq_false_iff, Bool.not_eq_true', Bool.not_eq_false', bne_iff_ne, beq_iff_eq, bne_eq_false_iff_eq, beq_eq_false_iff_ne, ne_eq, Int.ofNat_lt, Int.not_lt, Int.not_le, Int.ofNat_le, Nat.not_lt, Nat.not_le, gt_iff_lt, ge_iff_le] at h2
      apply G.skip
      apply G.blk
      refine G.rg tab_ok (kof_nil _) (hk := ?_)
      refine G.cn [1, 2, 7, 11, 12, 13] [] (h := ?_)
      first
      | exact G.upto (hJ (j + 1, (j : Int)) ⟨by simp only; omega, onlyUp_yes hu (by omega) (by simp only [isFr, Bool.and_eq_true, beq_iff_eq]; exact ⟨h2.1, h2.2⟩)⟩ (by simp only; omega)) (by simp)
      | exact G.upto (hJ (j + 1, a) ⟨by simp only; omega, onlyUp_no hu (by rw [Bool.eq_false_iff]; simp only [isFr, ne_eq, Bool.and_eq_true, beq_iff_eq]; exact fun hh => h2 hh.1 hh.2)⟩ (by simp only; omega)) (by simp)
  · try simp only [decide_eq_true_eq, decide_eq_false_iff_not, Bool.and_eq_true, Bool.and_eq_false_imp, Bool.or_eq_true, Bool.or_eq_false_iff, Bool.not_eq_true', Bool.not_eq_false', bne_iff_ne, beq_iff_eq, bne_eq_false_iff_eq, beq_eq_false_iff_ne, ne_eq, Int.ofNat_lt, Int.not_lt, Int.not_le, Int.ofNat_le, Nat.not_lt, Nat.not_le, gt_iff_lt, ge_iff_le] at h1
    refine G.exit rfl ?_
    apply G.seq
    refine G.rg tab_ok (kof_nil _) (hk := ?_)
    obtain rfl : j = ks.length := by omega
    refine G.fin tab_ok (hr := ?_)
    simp only [oneOrTup]
    congr 1
    exact (onlyUp_end hu).symm
def r_l3From (xs0 : List A) (rr : A) : Prop := ∃ (ps : List PG) (ks : List LK) (p : Int) (q : Int), (KW ks) ∧ (ks.length < 2513169434844) ∧ xs0 = [.agg [.row false 3 (ps.map pv), .row false 5 (ks.map kv)], .int .i64 p, .int .i64 q] ∧ rr = .int .i64 (onlyAt (isFr p q) ks)
noncomputable def q_l3From : List A → Option A := kgr r_l3From
theorem k_l3From : KOk Try.prog (136, q_l3From) := kgr_ok (enters_of Try.func136 rfl rfl) (by rintro xs0 rr ⟨ps, ks, p, q, hc1, hc2, rfl, rfl⟩; exact l3From_ac ps ks p q hc1 hc2)
theorem e_l3From : ∀ (ps : List PG) (ks : List LK) (p : Int) (q : Int), (KW ks) → (ks.length < 2513169434844) → q_l3From [.agg [.row false 3 (ps.map pv), .row false 5 (ks.map kv)], .int .i64 p, .int .i64 q] = some (.int .i64 (onlyAt (isFr p q) ks)) := by
  intro ps ks p q hc1 hc2
  refine kgr_eq (fun xs0 rr r2 h h2 => ?_) ⟨ps, ks, p, q, hc1, hc2, rfl, rfl⟩
  obtain ⟨ps1, ks1, p1, q1, _, _, e1, rfl⟩ := h; obtain ⟨ps2, ks2, p2, q2, _, _, e2, rfl⟩ := h2
  rw [e1] at e2
  simp only [List.cons.injEq, A.int.injEq, A.agg.injEq, A.row.injEq, pv_inj, kv_inj, true_and, and_true] at e2
  obtain ⟨⟨e3, e4⟩, e5, e6⟩ := e2
  subst e3 e4 e5 e6
  rfl

end Go.Proofs.Yticgaflgbljhlaa.Ab
