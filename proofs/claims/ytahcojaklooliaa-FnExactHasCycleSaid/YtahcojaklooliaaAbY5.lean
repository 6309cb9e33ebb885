/- Walks of functions of the program: what each answers, for all arguments that meet its conditions. -/
import Derived.Test.YtahcojaklooliaaAbY4
namespace Go.Proofs.Ytahcojaklooliaa.Ab
open Go
set_option linter.unusedVariables false
set_option linter.unusedSimpArgs false
set_option maxHeartbeats 4000000
theorem ok_specReachedFrom : Kn.ok Try.prog (kof [(68, q_specIsNetwork), (69, q_l3Has), (70, q_l3Reached)]) := kof_cons k_specIsNetwork (kof_cons k_l3Has (kof_cons k_l3Reached ((kof_nil _))))
theorem specReachedFrom_ac (ps : List PG) (ks : List LK) (p : Int) (hc1 : NW ps) (hc2 : KW ks) (hc3 : ps.length < 3518437208781) (hc4 : ks.length < 2513169434844) : AC Try.prog 26 [.agg [.row false 3 (ps.map pv), .row false 5 (ks.map kv)], .int .i64 p] (.tup [.row true 1 ((reachO ps ks p).1.map iv), .bool (reachO ps ks p).2]) := by
  have e_specIsNetwork := e_specIsNetwork
  have e_l3Has := e_l3Has
  have e_l3Reached := e_l3Reached
  have hft : (false == true) = false := rfl
  have htf : (true == false) = false := rfl
  have hgb := gbv_eq
  have hpg := pureLL_gbv
  refine AC.of tab_ok Try.func26 rfl (Nat.le_of_ble_eq_true rfl) fun w0 S0 => ?_
  change G _ _ ⟨[(0, .agg [.row false 3 (ps.map pv), .row false 5 (ks.map kv)]), (1, .int .i64 p)], [], 35⟩
  apply G.seq
  refine G.rg tab_ok ok_specReachedFrom (hk := ?_)
  apply G.seq
  apply G.seq
  rcases (show netOk ps ks = false ∨ (netOk ps ks = true ∧ hasP ps p = false) ∨ (netOk ps ks = true ∧ hasP ps p = true) by cases netOk ps ks <;> cases hasP ps p <;> simp) with c1 | ⟨c1, c2⟩ | ⟨hnk, c2⟩
  · skip
    refine G.rg tab_ok ok_specReachedFrom (hk := ?_)
    refine G.iffT (h1 := ?_)
    apply G.seq
    refine G.rg tab_ok ok_specReachedFrom (hk := ?_)
    refine G.nilRow 4 1 rfl ?_
    refine G.fin tab_ok (hr := ?_)
    rw [reachO_no (Or.inl c1)]
    rfl
  · skip
    refine G.rg tab_ok ok_specReachedFrom (hk := ?_)
    refine G.iffT (h1 := ?_)
    apply G.seq
    refine G.rg tab_ok ok_specReachedFrom (hk := ?_)
    refine G.nilRow 4 1 rfl ?_
    refine G.fin tab_ok (hr := ?_)
    rw [reachO_no (Or.inr c2)]
    rfl
  · skip
    have hnw := netOk_w hnk
    have hp12 := hnw.pl
    have hk30 := hnw.kl
    have hrg := rng_of hnk
    obtain ⟨T, hT⟩ : ∃ x, mN p ks ps.length ps.length = x := ⟨_, rfl⟩
    have hTl : T.length = ps.length := by rw [← hT, mN_len]
    refine G.rg tab_ok ok_specReachedFrom (hk := ?_)
    refine G.iffF (h2 := ?_)
    apply G.skip
    apply G.seq
    refine G.rg tab_ok ok_specReachedFrom (hk := ?_)
    apply G.seq
    apply G.seq
    refine G.rg tab_ok ok_specReachedFrom (hk := ?_)
    apply G.block
    refine G.nm [6, 21, 22, 23] (h := ?_)
    refine G.loopX (fun j : Nat => ⟨[(6, .sl 0 0 (trueU T j).length), (21, .sl 1 0 ps.length), (22, .int .i64 ps.length), (23, .int .i64 j)], [some (1, (trueU T j).map iv), some (1, T.map gbv)], 35⟩) (fun j => j ≤ ps.length) (fun j => ps.length - j) (0) (Nat.zero_le _) (by simp [trueU, hTl]) ?_
    intro j hj J hJ
    have hw : IntKind.i64.wrap ((j : Int) + 1) = (j : Int) + 1 := wrap64 (by omega) (by omega)
    apply G.seq
    refine G.rg tab_ok ok_specReachedFrom (hk := ?_)
    apply G.seq
    refine G.iff (h1 := fun h4 => ?_) (h2 := fun h4 => ?_)
    · try simp only [decide_eq_true_eq, decide_eq_false_iff_not, Bool.and_eq_true, Bool.and_eq_false_imp, Bool.or_eq_true, Bool.or_eq_false_iff, Bool.not_eq_true', Bool.not_eq_false', bne_iff_ne, beq_iff_eq, bne_eq_false_iff_eq, beq_eq_false_iff_ne, ne_eq, Int.ofNat_lt, Int.not_lt, Int.not_le, Int.ofNat_le, Nat.not_lt, Nat.not_le, gt_iff_lt, ge_iff_le] at h4
      apply G.skip
      apply G.seq
      apply G.block
      apply G.seq
      have hjp : j < ps.length := by omega
      have hjt : j < T.length := by omega
      have htl := trueU_len T j
      have hot : List.take (trueU T j).length ((trueU T j).map iv) = (trueU T j).map iv := List.take_of_length_le (by simp)
      have hm5 : rdCells (List.map gbv T) j 0 1 = some [.bool (T.getD j default)] := by simp only [rdCells, List.getElem?_map, getD_some hjt]; rfl
      have hq1 : (((trueU T j).length + 1 : Nat) : Int) ≤ 4611686018427387904 := by omega
      have hq2 : ((trueU T j).length + 1) * 8 ≤ 70368744177664 := by omega
      refine G.rg tab_ok ok_specReachedFrom (hk := ?_)
      apply G.seq
      refine G.rg tab_ok ok_specReachedFrom (hk := ?_)
      refine G.iff (h1 := fun h5 => ?_) (h2 := fun h5 => ?_)
      · try simp only [decide_eq_true_eq, decide_eq_false_iff_not, Bool.and_eq_true, Bool.and_eq_false_imp, Bool.or_eq_true, Bool.or_eq_false_iff, Bool.not_eq_true', Bool.not_eq_false', bne_iff_ne, beq_iff_eq, bne_eq_false_iff_eq, beq_eq_false_iff_ne, ne_eq, Int.ofNat_lt, Int.not_lt, Int.not_le, Int.ofNat_le, Nat.not_lt, Nat.not_le, gt_iff_lt, ge_iff_le] at h5
        have hsu : trueU T j ++ [(j : Int)] = trueU T (j + 1) := by rw [trueU, if_pos h5]
        refine G.rg tab_ok ok_specReachedFrom (hk := ?_)
        apply G.blk
        first
        | (have hy := hsu)
        | (have hsu : trueU T (j + 1) = trueU T j := by rw [trueU, if_neg (by rw [h5]; simp)])
        refine G.rg tab_ok ok_specReachedFrom (hk := ?_)
        refine G.nm [6, 21, 22, 23] (h := ?_)
        exact G.upto (hJ (j + 1) (by omega) (by omega)) (by first | (rw [hsu]; simp; done) | (rw [← hsu]; simp [iv]; done))
      · try simp only [decide_eq_true_eq, decide_eq_false_iff_not, Bool.and_eq_true, Bool.and_eq_false_imp, Bool.or_eq_true, Bool.or_eq_false_iff, Bool.not_eq_true', Bool.not_eq_false', bne_iff_ne, beq_iff_eq, bne_eq_false_iff_eq, beq_eq_false_iff_ne, ne_eq, Int.ofNat_lt, Int.not_lt, Int.not_le, Int.ofNat_le, Nat.not_lt, Nat.not_le, gt_iff_lt, ge_iff_le] at h5
        apply G.skip
        apply G.blk
        first
        | (have hy := hsu)
        | (have hsu : trueU T (j + 1) = trueU T j := by rw [trueU, if_neg (by rw [h5]; simp)])
        refine G.rg tab_ok ok_specReachedFrom (hk := ?_)
        refine G.nm [6, 21, 22, 23] (h := ?_)
        exact G.upto (hJ (j + 1) (by omega) (by omega)) (by first | (rw [hsu]; simp; done) | (rw [← hsu]; simp [iv]; done))
    · try simp only [decide_eq_true_eq, decide_eq_false_iff_not, Bool.and_eq_true, Bool.and_eq_false_imp, Bool.or_eq_true, Bool.or_eq_false_iff, Bool.not_eq_true', Bool.not_eq_false', bne_iff_ne, beq_iff_eq, bne_eq_false_iff_eq, beq_eq_false_iff_ne, ne_eq, Int.ofNat_lt, Int.not_lt, Int.not_le, Int.ofNat_le, Nat.not_lt, Nat.not_le, gt_iff_lt, ge_iff_le] at h4
      refine G.exit rfl ?_
      apply G.seq
      refine G.rg tab_ok ok_specReachedFrom (hk := ?_)
      obtain rfl : j = ps.length := by omega
      have hol1 : List.take (trueU T ps.length).length ((trueU T ps.length).map iv) = (trueU T ps.length).map iv := List.take_of_length_le (by simp)
      refine G.fin tab_ok (hr := ?_)
      rw [reachO_yes hnk c2]
      unfold reachL
      rw [hT]
      simp only [oneOrTup]
def r_specReachedFrom (xs0 : List A) (rr : A) : Prop := ∃ (ps : List PG) (ks : List LK) (p : Int), (NW ps) ∧ (KW ks) ∧ (ps.length < 3518437208781) ∧ (ks.length < 2513169434844) ∧ xs0 = [.agg [.row false 3 (ps.map pv), .row false 5 (ks.map kv)], .int .i64 p] ∧ rr = .tup [.row true 1 ((reachO ps ks p).1.map iv), .bool (reachO ps ks p).2]
noncomputable def q_specReachedFrom : List A → Option A := kgr r_specReachedFrom
theorem k_specReachedFrom : KOk Try.prog (26, q_specReachedFrom) := kgr_ok (enters_of Try.func26 rfl rfl) (by rintro xs0 rr ⟨ps, ks, p, hc1, hc2, hc3, hc4, rfl, rfl⟩; exact specReachedFrom_ac ps ks p hc1 hc2 hc3 hc4)
theorem e_specReachedFrom : ∀ (ps : List PG) (ks : List LK) (p : Int), (NW ps) → (KW ks) → (ps.length < 3518437208781) → (ks.length < 2513169434844) → q_specReachedFrom [.agg [.row false 3 (ps.map pv), .row false 5 (ks.map kv)], .int .i64 p] = some (.tup [.row true 1 ((reachO ps ks p).1.map iv), .bool (reachO ps ks p).2]) := by
  intro ps ks p hc1 hc2 hc3 hc4
  refine kgr_eq (fun xs0 rr r2 h h2 => ?_) ⟨ps, ks, p, hc1, hc2, hc3, hc4, rfl, rfl⟩
  obtain ⟨ps1, ks1, p1, _, _, _, _, e1, rfl⟩ := h; obtain ⟨ps2, ks2, p2, _, _, _, _, e2, rfl⟩ := h2
  rw [e1] at e2
  simp only [List.cons.injEq, A.int.injEq, A.agg.injEq, A.row.injEq, pv_inj, kv_inj, true_and, and_true] at e2
  obtain ⟨⟨e3, e4⟩, e5⟩ := e2
  subst e3 e4 e5
  rfl
theorem ok_specHasCycle : Kn.ok Try.prog (kof [(68, q_specIsNetwork), (70, q_l3Reached)]) := kof_cons k_specIsNetwork (kof_cons k_l3Reached ((kof_nil _)))
theorem specHasCycle_ac (ps : List PG) (ks : List LK) (hc1 : NW ps) (hc2 : KW ks) (hc3 : ps.length < 3518437208781) (hc4 : ks.length < 2513169434844) : AC Try.prog 28 [.agg [.row false 3 (ps.map pv), .row false 5 (ks.map kv)]] (.bool (cycO ps ks)) := by
  have e_specIsNetwork := e_specIsNetwork
  have e_l3Reached := e_l3Reached
  have hft : (false == true) = false := rfl
  have htf : (true == false) = false := rfl
  have hgb := gbv_eq
  have hpg := pureLL_gbv
  refine AC.of tab_ok Try.func28 rfl (Nat.le_of_ble_eq_true rfl) fun w0 S0 => ?_
  change G _ _ ⟨[(0, .agg [.row false 3 (ps.map pv), .row false 5 (ks.map kv)])], [], 20⟩
  apply G.seq
  refine G.rg tab_ok ok_specHasCycle (hk := ?_)
  apply G.seq
  apply G.seq
  refine G.rg tab_ok ok_specHasCycle (hk := ?_)
  refine G.iff (h1 := fun h1 => ?_) (h2 := fun h1 => ?_)
  · try simp only [decide_eq_true_eq, decide_eq_false_iff_not, Bool.and_eq_true, Bool.and_eq_false_imp, Bool.or_eq_true, Bool.or_eq_false_iff, Bool.not_eq_true', Bool.not_eq_false', bne_iff_ne, beq_iff_eq, bne_eq_false_iff_eq, beq_eq_false_iff_ne, ne_eq, Int.ofNat_lt, Int.not_lt, Int.not_le, Int.ofNat_le, Nat.not_lt, Nat.not_le, gt_iff_lt, ge_iff_le] at h1
    apply G.seq
    refine G.rg tab_ok ok_specHasCycle (hk := ?_)
    refine G.fin tab_ok (hr := ?_)
    simp only [oneOrTup]
    rw [cyc_net h1]
  · try simp only [decide_eq_true_eq, decide_eq_false_iff_not, Bool.and_eq_true, Bool.and_eq_false_imp, Bool.or_eq_true, Bool.or_eq_false_iff, Bool.not_eq_true', Bool.not_eq_false', bne_iff_ne, beq_iff_eq, bne_eq_false_iff_eq, beq_eq_false_iff_ne, ne_eq, Int.ofNat_lt, Int.not_lt, Int.not_le, Int.ofNat_le, Nat.not_lt, Nat.not_le, gt_iff_lt, ge_iff_le] at h1
    apply G.skip
    apply G.seq
    apply G.seq
    have hnk : netOk ps ks = true := h1
    have hnw := netOk_w hnk
    have hp12 := hnw.pl
    have hk30 := hnw.kl
    have hrg := rng_of hnk
    refine G.rg tab_ok ok_specHasCycle (hk := ?_)
    apply G.block
    refine G.nm [1, 9, 10] (h := ?_)
    refine G.loopX (fun j : Nat => ⟨[(1, .ptr 0 0 0), (9, .int .i64 ps.length), (10, .int .i64 j)], [some (2, [[.row false 3 (ps.map pv), .row false 5 (ks.map kv)]])], 20⟩) (fun j => j ≤ ps.length ∧ ∀ k < j, cycAt ps ks k = false) (fun j => ps.length - j) (0) (⟨Nat.zero_le _, by omega⟩) (by simp) ?_
    intro j hj J hJ
    obtain ⟨hj, hall⟩ := hj
    have hw : IntKind.i64.wrap ((j : Int) + 1) = (j : Int) + 1 := wrap64 (by omega) (by omega)
    apply G.seq
    refine G.rg tab_ok ok_specHasCycle (hk := ?_)
    apply G.seq
    refine G.iff (h1 := fun h2 => ?_) (h2 := fun h2 => ?_)
    · try simp only [decide_eq_true_eq, decide_eq_false_iff_not, Bool.and_eq_true, Bool.and_eq_false_imp, Bool.or_eq_true, Bool.or_eq_false_iff, Bool.not_eq_true', Bool.not_eq_false', bne_iff_ne, beq_iff_eq, bne_eq_false_iff_eq, beq_eq_false_iff_ne, ne_eq, Int.ofNat_lt, Int.not_lt, Int.not_le, Int.ofNat_le, Nat.not_lt, Nat.not_le, gt_iff_lt, ge_iff_le] at h2
      apply G.skip
      apply G.seq
      apply G.block
      apply G.seq
      have hjp : j < ps.length := by omega
      obtain ⟨T, hT⟩ : ∃ x, mN (j : Int) ks ps.length ps.length = x := ⟨_, rfl⟩
      have hTl : T.length = ps.length := by rw [← hT, mN_len]
      have hjt : j < T.length := by omega
      have hji : (j : Int) < (ps.length : Int) := by omega
      have hm5 : rdCells (List.map gbv T) j 0 1 = some [.bool (T.getD j default)] := by simp only [rdCells, List.getElem?_map, getD_some hjt]; rfl
      have hcy : cycAt ps ks j = T.getD j default := by unfold cycAt; rw [hT]
      refine G.rg tab_ok ok_specHasCycle (hk := ?_)
      apply G.seq
      refine G.rg tab_ok ok_specHasCycle (hk := ?_)
      refine G.fg [1, 9, 10, 18] (hk := ?_)
      refine G.iff (h1 := fun h3 => ?_) (h2 := fun h3 => ?_)
      · try simp only [decide_eq_true_eq, decide_eq_false_iff_not, Bool.and_eq_true, Bool.and_eq_false_imp, Bool.or_eq_true, Bool.or_eq_false_iff, Bool.not_eq_true', Bool.not_eq_false', bne_iff_ne, beq_iff_eq, bne_eq_false_iff_eq, beq_eq_false_iff_ne, ne_eq, Int.ofNat_lt, Int.not_lt, Int.not_le, Int.ofNat_le, Nat.not_lt, Nat.not_le, gt_iff_lt, ge_iff_le] at h3
        apply G.seq
        refine G.rg tab_ok ok_specHasCycle (hk := ?_)
        refine G.fin tab_ok (hr := ?_)
        simp only [oneOrTup]
        rw [cyc_yes hnk hjp (by rw [hcy]; exact h3)]
      · try simp only [decide_eq_true_eq, decide_eq_false_iff_not, Bool.and_eq_true, Bool.and_eq_false_imp, Bool.or_eq_true, Bool.or_eq_false_iff, Bool.not_eq_true', Bool.not_eq_false', bne_iff_ne, beq_iff_eq, bne_eq_false_iff_eq, beq_eq_false_iff_ne, ne_eq, Int.ofNat_lt, Int.not_lt, Int.not_le, Int.ofNat_le, Nat.not_lt, Nat.not_le, gt_iff_lt, ge_iff_le] at h3
        apply G.skip
        apply G.blk
        refine G.rg tab_ok ok_specHasCycle (hk := ?_)
        refine G.nm [1, 9, 10] (h := ?_)
        exact G.upto (hJ (j + 1) ⟨by omega, up_stepB hall (by rw [hcy]; exact h3)⟩ (by omega)) (by simp)
    · try simp only [decide_eq_true_eq, decide_eq_false_iff_not, Bool.and_eq_true, Bool.and_eq_false_imp, Bool.or_eq_true, Bool.or_eq_false_iff, Bool.not_eq_true', Bool.not_eq_false', bne_iff_ne, beq_iff_eq, bne_eq_false_iff_eq, beq_eq_false_iff_ne, ne_eq, Int.ofNat_lt, Int.not_lt, Int.not_le, Int.ofNat_le, Nat.not_lt, Nat.not_le, gt_iff_lt, ge_iff_le] at h2
      refine G.exit rfl ?_
      apply G.seq
      refine G.rg tab_ok ok_specHasCycle (hk := ?_)
      refine G.fin tab_ok (hr := ?_)
      simp only [oneOrTup]
      rw [cyc_no (fun k hk => hall k (by omega))]
def r_specHasCycle (xs0 : List A) (rr : A) : Prop := ∃ (ps : List PG) (ks : List LK), (NW ps) ∧ (KW ks) ∧ (ps.length < 3518437208781) ∧ (ks.length < 2513169434844) ∧ xs0 = [.agg [.row false 3 (ps.map pv), .row false 5 (ks.map kv)]] ∧ rr = .bool (cycO ps ks)
noncomputable def q_specHasCycle : List A → Option A := kgr r_specHasCycle
theorem k_specHasCycle : KOk Try.prog (28, q_specHasCycle) := kgr_ok (enters_of Try.func28 rfl rfl) (by rintro xs0 rr ⟨ps, ks, hc1, hc2, hc3, hc4, rfl, rfl⟩; exact specHasCycle_ac ps ks hc1 hc2 hc3 hc4)
theorem e_specHasCycle : ∀ (ps : List PG) (ks : List LK), (NW ps) → (KW ks) → (ps.length < 3518437208781) → (ks.length < 2513169434844) → q_specHasCycle [.agg [.row false 3 (ps.map pv), .row false 5 (ks.map kv)]] = some (.bool (cycO ps ks)) := by
  intro ps ks hc1 hc2 hc3 hc4
  refine kgr_eq (fun xs0 rr r2 h h2 => ?_) ⟨ps, ks, hc1, hc2, hc3, hc4, rfl, rfl⟩
  obtain ⟨ps1, ks1, _, _, _, _, e1, rfl⟩ := h; obtain ⟨ps2, ks2, _, _, _, _, e2, rfl⟩ := h2
  rw [e1] at e2
  simp only [List.cons.injEq, A.int.injEq, A.bool.injEq, A.agg.injEq, A.row.injEq, pv_inj, kv_inj, true_and, and_true] at e2
  obtain ⟨e3, e4⟩ := e2
  subst e3 e4
  rfl
end Go.Proofs.Ytahcojaklooliaa.Ab
