/- Walks of functions of the program: what each answers, for all arguments that meet its conditions. -/
import Derived.Test.YticgaflgbljhlaaAbState
import Derived.Test.YticgaflgbljhlaaAbP50
import Derived.Test.YticgaflgbljhlaaFwB
import Derived.Test.YticgaflgbljhlaaAbAuto2
namespace Go.Proofs.Yticgaflgbljhlaa.Ab
open Go
set_option linter.unusedVariables false
set_option linter.unusedSimpArgs false
set_option maxHeartbeats 4000000

theorem ok_szActorS : Kn.ok Try.prog (kof [(132, q_szActor)]) := kof_cons k_szActor ((kof_nil _))
theorem szActorS_ac (xs : List AT) (n : Int) (hc1 : 0 ≤ n) (hc2 : n ≤ 1048576) (hc3 : xs.length < 4398046511104) (hc4 : XW xs) : AC Try.prog 64 [.row false 2 (xs.map av), .int .i64 n] (.int .i64 (szT n xs.length (gtot aL xs))) := by
  have e_szActor := e_szActor
  have hw0 : IntKind.i64.wrap (n - (xs.length : Int)) = n - xs.length := wrap64 (by omega) (by omega)
  refine AC.of tab_ok Try.func64 rfl (Nat.le_of_ble_eq_true rfl) fun w0 S0 => ?_
  change G _ _ ⟨[(0, .row false 2 (xs.map av)), (1, .int .i64 n)], [], 27⟩
  apply G.seq
  refine G.rg tab_ok ok_szActorS (hk := ?_)
  apply G.seq
  refine G.rg tab_ok ok_szActorS (hk := ?_)
  apply G.seq
  apply G.seq
  refine G.rg tab_ok ok_szActorS (hk := ?_)
  refine G.iff (h1 := fun h1 => ?_) (h2 := fun h1 => ?_)
  · try simp only [decide_eq_true_eq, decide_eq_false_iff_not, Bool.and_eq_true, Bool.and_eq_false_imp, Bool.or_eq_true, Bool.or_eq_false_iff, Bool.not_eq_true', Bool.not_eq_false', bne_iff_ne, beq_iff_eq, bne_eq_false_iff_eq, beq_eq_false_iff_ne, ne_eq, Int.ofNat_lt, Int.not_lt, Int.not_le, Int.ofNat_le, Nat.not_lt, Nat.not_le, gt_iff_lt, ge_iff_le] at h1
    apply G.seq
    refine G.rg tab_ok ok_szActorS (hk := ?_)
    refine G.fin tab_ok (hr := ?_)
    simp only [oneOrTup]
    congr 1
    unfold szT
    rw [if_pos (by omega)]
  · try simp only [decide_eq_true_eq, decide_eq_false_iff_not, Bool.and_eq_true, Bool.and_eq_false_imp, Bool.or_eq_true, Bool.or_eq_false_iff, Bool.not_eq_true', Bool.not_eq_false', bne_iff_ne, beq_iff_eq, bne_eq_false_iff_eq, beq_eq_false_iff_ne, ne_eq, Int.ofNat_lt, Int.not_lt, Int.not_le, Int.ofNat_le, Nat.not_lt, Nat.not_le, gt_iff_lt, ge_iff_le] at h1
    apply G.skip
    apply G.seq
    apply G.seq
    refine G.rg tab_ok ok_szActorS (hk := ?_)
    apply G.block
    refine G.cn [0, 1, 5] [] (h := ?_)
    refine G.loopX (fun j : Nat => ⟨[(0, .row false 2 (xs.map av)), (1, .int .i64 (n - (xs.length : Int) - (gtot aL (xs.take j) : Int))), (5, .int .i64 j)], [], 27⟩) (fun j => j ≤ xs.length ∧ 0 ≤ n - (xs.length : Int) - (gtot aL (xs.take j) : Int)) (fun j => xs.length - j) (0) (⟨Nat.zero_le _, by simp only [List.take_zero, gtot_nil]; omega⟩) (by simp [gtot_nil]) ?_
    intro j hj J hJ
    obtain ⟨hj, hk⟩ := hj
    have hk2 : n - (xs.length : Int) - (gtot aL (xs.take j) : Int) ≤ 1048576 := by omega
    have hw : IntKind.i64.wrap ((j : Int) + 1) = (j : Int) + 1 := wrap64 (by omega) (by omega)
    apply G.seq
    apply G.seq
    refine G.rg tab_ok ok_szActorS (hk := ?_)
    refine G.iff (h1 := fun h2 => ?_) (h2 := fun h2 => ?_)
    · try simp only [decide_eq_true_eq, decide_eq_false_iff_not, Bool.and_eq_true, Bool.and_eq_false_imp, Bool.or_eq_true, Bool.or_eq_false_iff, Bool.not_eq_true', Bool.not_eq_false', bne_iff_ne, beq_iff_eq, bne_eq_false_iff_eq, beq_eq_false_iff_ne, ne_eq, Int.ofNat_lt, Int.not_lt, Int.not_le, Int.ofNat_le, Nat.not_lt, Nat.not_le, gt_iff_lt, ge_iff_le] at h2
      apply G.skip
      apply G.seq
      apply G.block
      apply G.seq
      have hlr : (xs.getD j default).rs.length < 17592186044416 := hc4 _ (getD_mem0 h2)
      refine G.rg tab_ok ok_szActorS (hk := ?_)
      apply G.seq
      refine G.rg tab_ok ok_szActorS (hk := ?_)
      refine G.fg [0, 1, 5, 25] (hk := ?_)
      refine G.iff (h1 := fun h3 => ?_) (h2 := fun h3 => ?_)
      · try simp only [decide_eq_true_eq, decide_eq_false_iff_not, Bool.and_eq_true, Bool.and_eq_false_imp, Bool.or_eq_true, Bool.or_eq_false_iff, Bool.not_eq_true', Bool.not_eq_false', bne_iff_ne, beq_iff_eq, bne_eq_false_iff_eq, beq_eq_false_iff_ne, ne_eq, Int.ofNat_lt, Int.not_lt, Int.not_le, Int.ofNat_le, Nat.not_lt, Nat.not_le, gt_iff_lt, ge_iff_le] at h3
        apply G.seq
        refine G.rg tab_ok ok_szActorS (hk := ?_)
        refine G.fin tab_ok (hr := ?_)
        simp only [oneOrTup]
        congr 1
        symm
        split at h3
        · rename_i hh
          exact szT_neg (f := aL) h2 hh
        · omega
      · try simp only [decide_eq_true_eq, decide_eq_false_iff_not, Bool.and_eq_true, Bool.and_eq_false_imp, Bool.or_eq_true, Bool.or_eq_false_iff, Bool.not_eq_true', Bool.not_eq_false', bne_iff_ne, beq_iff_eq, bne_eq_false_iff_eq, beq_eq_false_iff_ne, ne_eq, Int.ofNat_lt, Int.not_lt, Int.not_le, Int.ofNat_le, Nat.not_lt, Nat.not_le, gt_iff_lt, ge_iff_le] at h3
        apply G.skip
        apply G.blk
        refine G.rg tab_ok ok_szActorS (hk := ?_)
        refine G.cn [0, 1, 5] [] (h := ?_)
        split at h3
        · omega
        rename_i hh
        rw [if_neg hh]
        obtain ⟨hv, hpos⟩ := szT_step (f := aL) h2 hk hh
        exact G.upto (hJ (j + 1) ⟨by omega, hpos⟩ (by omega)) (by rw [← hv]; simp)
    · try simp only [decide_eq_true_eq, decide_eq_false_iff_not, Bool.and_eq_true, Bool.and_eq_false_imp, Bool.or_eq_true, Bool.or_eq_false_iff, Bool.not_eq_true', Bool.not_eq_false', bne_iff_ne, beq_iff_eq, bne_eq_false_iff_eq, beq_eq_false_iff_ne, ne_eq, Int.ofNat_lt, Int.not_lt, Int.not_le, Int.ofNat_le, Nat.not_lt, Nat.not_le, gt_iff_lt, ge_iff_le] at h2
      refine G.exit rfl ?_
      apply G.seq
      refine G.rg tab_ok ok_szActorS (hk := ?_)
      obtain rfl : j = xs.length := by omega
      rw [List.take_length] at hk ⊢
      refine G.fin tab_ok (hr := ?_)
      simp only [oneOrTup]
      congr 1
      unfold szT
      rw [if_neg (by omega)]
def r_szActorS (xs0 : List A) (rr : A) : Prop := ∃ (xs : List AT) (n : Int), (0 ≤ n) ∧ (n ≤ 1048576) ∧ (xs.length < 4398046511104) ∧ (XW xs) ∧ xs0 = [.row false 2 (xs.map av), .int .i64 n] ∧ rr = .int .i64 (szT n xs.length (gtot aL xs))
noncomputable def q_szActorS : List A → Option A := kgr r_szActorS
theorem k_szActorS : KOk Try.prog (64, q_szActorS) := kgr_ok (enters_of Try.func64 rfl rfl) (by rintro xs0 rr ⟨xs, n, hc1, hc2, hc3, hc4, rfl, rfl⟩; exact szActorS_ac xs n hc1 hc2 hc3 hc4)
theorem e_szActorS : ∀ (xs : List AT) (n : Int), (0 ≤ n) → (n ≤ 1048576) → (xs.length < 4398046511104) → (XW xs) → q_szActorS [.row false 2 (xs.map av), .int .i64 n] = some (.int .i64 (szT n xs.length (gtot aL xs))) := by
  intro xs n hc1 hc2 hc3 hc4
  refine kgr_eq (fun xs0 rr r2 h h2 => ?_) ⟨xs, n, hc1, hc2, hc3, hc4, rfl, rfl⟩
  obtain ⟨xs1, n1, _, _, _, _, e1, rfl⟩ := h; obtain ⟨xs2, n2, _, _, _, _, e2, rfl⟩ := h2
  rw [e1] at e2
  simp only [List.cons.injEq, A.int.injEq, A.bool.injEq, A.agg.injEq, A.row.injEq, A.fn.injEq, A.rp.injEq, insv_inj, iv_inj, pv_inj, kv_inj, av_inj, true_and, and_true] at e2
  simp [e2]

theorem ok_toActorS : Kn.ok Try.prog (kof [(140, q_toActor)]) := kof_cons k_toActor ((kof_nil _))
theorem toActorS_ac (xs : List AT) (hc1 : xs.length < 4398046511104) (hc2 : XW xs) : AC Try.prog 73 [.row false 2 (xs.map av)] (.row true 2 (xs.map oav)) := by
  have e_toActor := e_toActor
  have hb1 : (xs.length : Int) ≤ 4611686018427387904 := by omega
  have hb2 : 32 * (xs.length : Int) ≤ 140737488355328 := by omega
  refine AC.of tab_ok Try.func73 rfl (Nat.le_of_ble_eq_true rfl) fun w0 S0 => ?_
  change G _ _ ⟨[(0, .row false 2 (xs.map av))], [], 23⟩
  apply G.seq
  refine G.rg tab_ok ok_toActorS (hk := ?_)
  apply G.seq
  refine G.rg tab_ok ok_toActorS (hk := ?_)
  apply G.seq
  apply G.seq
  refine G.rg tab_ok ok_toActorS (hk := ?_)
  apply G.block
  refine G.cn [0, 3, 4] [0] (h := ?_)
  refine G.loopX (fun j : Nat => ⟨[(0, .row false 2 (xs.map av)), (3, .sl 0 0 xs.length), (4, .int .i64 j)], [some (2, fillB oav xs [.int .i64 0, .nils] j)], 23⟩) (fun j => j ≤ xs.length) (fun j => xs.length - j) (0) (Nat.zero_le _) (by simp [fillB]) ?_
  intro j hj J hJ
  have hw : IntKind.i64.wrap ((j : Int) + 1) = (j : Int) + 1 := wrap64 (by omega) (by omega)
  have hlen := fillB_len oav [.int .i64 0, .nils] hj
  apply G.seq
  apply G.seq
  refine G.rg tab_ok ok_toActorS (hk := ?_)
  refine G.iff (h1 := fun h1 => ?_) (h2 := fun h1 => ?_)
  · try simp only [decide_eq_true_eq, decide_eq_false_iff_not, Bool.and_eq_true, Bool.and_eq_false_imp, Bool.or_eq_true, Bool.or_eq_false_iff, Bool.not_eq_true', Bool.not_eq_false', bne_iff_ne, beq_iff_eq, bne_eq_false_iff_eq, beq_eq_false_iff_ne, ne_eq, Int.ofNat_lt, Int.not_lt, Int.not_le, Int.ofNat_le, Nat.not_lt, Nat.not_le, gt_iff_lt, ge_iff_le] at h1
    apply G.skip
    apply G.seq
    apply G.block
    have hg := fillB_get oav [.int .i64 0, .nils] h1
    have hlr : (xs.getD j default).rs.length < 17592186044416 := hc2 _ (getD_mem0 h1)
    refine G.rg tab_ok ok_toActorS (hk := ?_)
    refine G.unfocusFE 0 j 1 1 (f := oav) (l := xs) rfl h1 rfl rfl (by decide) (by simp) (by first | exact pureLL_insv _ | exact pureLL_iv _) rfl ?_
    apply G.blk
    refine G.rg tab_ok ok_toActorS (hk := ?_)
    have hp := fillB_pure oav [.int .i64 0, .nils] (l := xs) (i := j + 1) (fun x => by simp [oav, pureL, pureA, pureLL_insv, pureLL_iv]) rfl
    refine G.cn [0, 3, 4] [0] (h := ?_)
    exact G.upto (hJ (j + 1) (by omega) (by omega)) (by simp)
  · try simp only [decide_eq_true_eq, decide_eq_false_iff_not, Bool.and_eq_true, Bool.and_eq_false_imp, Bool.or_eq_true, Bool.or_eq_false_iff, Bool.not_eq_true', Bool.not_eq_false', bne_iff_ne, beq_iff_eq, bne_eq_false_iff_eq, beq_eq_false_iff_ne, ne_eq, Int.ofNat_lt, Int.not_lt, Int.not_le, Int.ofNat_le, Nat.not_lt, Nat.not_le, gt_iff_lt, ge_iff_le] at h1
    refine G.exit rfl ?_
    apply G.seq
    refine G.rg tab_ok ok_toActorS (hk := ?_)
    obtain rfl : j = xs.length := by omega
    rw [fillB_full]
    refine G.fin tab_ok (hr := ?_)
    rfl
def r_toActorS (xs0 : List A) (rr : A) : Prop := ∃ (xs : List AT), (xs.length < 4398046511104) ∧ (XW xs) ∧ xs0 = [.row false 2 (xs.map av)] ∧ rr = .row true 2 (xs.map oav)
noncomputable def q_toActorS : List A → Option A := kgr r_toActorS
theorem k_toActorS : KOk Try.prog (73, q_toActorS) := kgr_ok (enters_of Try.func73 rfl rfl) (by rintro xs0 rr ⟨xs, hc1, hc2, rfl, rfl⟩; exact toActorS_ac xs hc1 hc2)
theorem e_toActorS : ∀ (xs : List AT), (xs.length < 4398046511104) → (XW xs) → q_toActorS [.row false 2 (xs.map av)] = some (.row true 2 (xs.map oav)) := by
  intro xs hc1 hc2
  refine kgr_eq (fun xs0 rr r2 h h2 => ?_) ⟨xs, hc1, hc2, rfl, rfl⟩
  obtain ⟨xs1, _, _, e1, rfl⟩ := h; obtain ⟨xs2, _, _, e2, rfl⟩ := h2
  rw [e1] at e2
  simp only [List.cons.injEq, A.int.injEq, A.bool.injEq, A.agg.injEq, A.row.injEq, A.fn.injEq, A.rp.injEq, insv_inj, iv_inj, pv_inj, kv_inj, av_inj, true_and, and_true] at e2
  simp [e2]

theorem ok_eqActorS : Kn.ok Try.prog (kof [(146, q_eqActor)]) := kof_cons k_eqActor ((kof_nil _))
theorem eqActorS_ac (xs : List AT) (xs' : List AT) (hc1 : XW xs) (hc2 : XW xs') (hc3 : xs.length < 4398046511104) : AC Try.prog 81 [.row false 2 (xs.map av), .row false 2 (xs'.map av)] (.bool (decide (xs = xs'))) := by
  have e_eqActor := e_eqActor
  refine AC.of tab_ok Try.func81 rfl (Nat.le_of_ble_eq_true rfl) fun w0 S0 => ?_
  change G _ _ ⟨[(0, .row false 2 (xs.map av)), (1, .row false 2 (xs'.map av))], [], 27⟩
  apply G.seq
  refine G.rg tab_ok ok_eqActorS (hk := ?_)
  apply G.seq
  apply G.seq
  refine G.rg tab_ok ok_eqActorS (hk := ?_)
  refine G.iff (h1 := fun h1 => ?_) (h2 := fun h1 => ?_)
  · try simp only [decide_eq_true_eq, decide_eq_false_iff_not, Bool.and_eq_true, Bool.and_eq_false_imp, Bool.or_eq_true, Bool.or_eq_false_iff, Bool.not_eq_true', Bool.not_eq_false', bne_iff_ne, beq_iff_eq, bne_eq_false_iff_eq, beq_eq_false_iff_ne, ne_eq, Int.ofNat_lt, Int.not_lt, Int.not_le, Int.ofNat_le, Nat.not_lt, Nat.not_le, gt_iff_lt, ge_iff_le] at h1
    apply G.seq
    refine G.rg tab_ok ok_eqActorS (hk := ?_)
    refine G.fin tab_ok (hr := ?_)
    simp only [oneOrTup]
    congr 1
    symm
    rw [decide_eq_false_iff_not]
    intro e
    exact h1 (by rw [e])
  · try simp only [decide_eq_true_eq, decide_eq_false_iff_not, Bool.and_eq_true, Bool.and_eq_false_imp, Bool.or_eq_true, Bool.or_eq_false_iff, Bool.not_eq_true', Bool.not_eq_false', bne_iff_ne, beq_iff_eq, bne_eq_false_iff_eq, beq_eq_false_iff_ne, ne_eq, Int.ofNat_lt, Int.not_lt, Int.not_le, Int.ofNat_le, Nat.not_lt, Nat.not_le, gt_iff_lt, ge_iff_le] at h1
    apply G.skip
    apply G.seq
    apply G.seq
    refine G.rg tab_ok ok_eqActorS (hk := ?_)
    apply G.block
    refine G.cn [0, 1, 5] [] (h := ?_)
    refine G.loopX (fun j : Nat => ⟨[(0, .row false 2 (xs.map av)), (1, .row false 2 (xs'.map av)), (5, .int .i64 j)], [], 27⟩) (fun j => j ≤ xs.length ∧ ∀ k < j, xs.getD k default = xs'.getD k default) (fun j => xs.length - j) (0) (⟨Nat.zero_le _, by omega⟩) (by simp) ?_
    intro j hj J hJ
    obtain ⟨hj, hall⟩ := hj
    have hw : IntKind.i64.wrap ((j : Int) + 1) = (j : Int) + 1 := wrap64 (by omega) (by omega)
    apply G.seq
    apply G.seq
    refine G.rg tab_ok ok_eqActorS (hk := ?_)
    refine G.iff (h1 := fun h2 => ?_) (h2 := fun h2 => ?_)
    · try simp only [decide_eq_true_eq, decide_eq_false_iff_not, Bool.and_eq_true, Bool.and_eq_false_imp, Bool.or_eq_true, Bool.or_eq_false_iff, Bool.not_eq_true', Bool.not_eq_false', bne_iff_ne, beq_iff_eq, bne_eq_false_iff_eq, beq_eq_false_iff_ne, ne_eq, Int.ofNat_lt, Int.not_lt, Int.not_le, Int.ofNat_le, Nat.not_lt, Nat.not_le, gt_iff_lt, ge_iff_le] at h2
      apply G.skip
      apply G.seq
      apply G.block
      apply G.seq
      have h1m : j < xs'.length := by omega
      have h1l : j < xs.length := by omega
      have hlr := hc1 _ (getD_mem0 h1l)
      have hlm := hc2 _ (getD_mem0 h1m)
      refine G.dr mixed tab_ok ok_eqActorS [0, 1, 2, 3, 4, 5, 6, 7, 8, 9] (hk := ?_)
      refine G.fg [0, 1, 5, 26] (hk := ?_)
      refine G.iff (h1 := fun h3 => ?_) (h2 := fun h3 => ?_)
      · try simp only [decide_eq_true_eq, decide_eq_false_iff_not, Bool.and_eq_true, Bool.and_eq_false_imp, Bool.or_eq_true, Bool.or_eq_false_iff, Bool.not_eq_true', Bool.not_eq_false', bne_iff_ne, beq_iff_eq, bne_eq_false_iff_eq, beq_eq_false_iff_ne, ne_eq, Int.ofNat_lt, Int.not_lt, Int.not_le, Int.ofNat_le, Nat.not_lt, Nat.not_le, gt_iff_lt, ge_iff_le] at h3
        apply G.seq
        refine G.rg tab_ok ok_eqActorS (hk := ?_)
        refine G.fin tab_ok (hr := ?_)
        simp only [oneOrTup]
        congr 1
        symm
        rw [decide_eq_false_iff_not]
        intro e
        exact h3 (at_ext.2 (by rw [e]))
      · try simp only [decide_eq_true_eq, decide_eq_false_iff_not, Bool.and_eq_true, Bool.and_eq_false_imp, Bool.or_eq_true, Bool.or_eq_false_iff, Bool.not_eq_true', Bool.not_eq_false', bne_iff_ne, beq_iff_eq, bne_eq_false_iff_eq, beq_eq_false_iff_ne, ne_eq, Int.ofNat_lt, Int.not_lt, Int.not_le, Int.ofNat_le, Nat.not_lt, Nat.not_le, gt_iff_lt, ge_iff_le] at h3
        apply G.skip
        apply G.blk
        refine G.rg tab_ok ok_eqActorS (hk := ?_)
        refine G.cn [0, 1, 5] [] (h := ?_)
        exact G.upto (hJ (j + 1) ⟨by omega, geq_upto hall (at_ext.1 h3)⟩ (by omega)) (by simp)
    · try simp only [decide_eq_true_eq, decide_eq_false_iff_not, Bool.and_eq_true, Bool.and_eq_false_imp, Bool.or_eq_true, Bool.or_eq_false_iff, Bool.not_eq_true', Bool.not_eq_false', bne_iff_ne, beq_iff_eq, bne_eq_false_iff_eq, beq_eq_false_iff_ne, ne_eq, Int.ofNat_lt, Int.not_lt, Int.not_le, Int.ofNat_le, Nat.not_lt, Nat.not_le, gt_iff_lt, ge_iff_le] at h2
      refine G.exit rfl ?_
      apply G.seq
      refine G.rg tab_ok ok_eqActorS (hk := ?_)
      refine G.fin tab_ok (hr := ?_)
      simp only [oneOrTup]
      congr 1
      symm
      rw [decide_eq_true_eq]
      exact geq_all (by omega) (fun k hk => hall k (by omega))
def r_eqActorS (xs0 : List A) (rr : A) : Prop := ∃ (xs : List AT) (xs' : List AT), (XW xs) ∧ (XW xs') ∧ (xs.length < 4398046511104) ∧ xs0 = [.row false 2 (xs.map av), .row false 2 (xs'.map av)] ∧ rr = .bool (decide (xs = xs'))
noncomputable def q_eqActorS : List A → Option A := kgr r_eqActorS
theorem k_eqActorS : KOk Try.prog (81, q_eqActorS) := kgr_ok (enters_of Try.func81 rfl rfl) (by rintro xs0 rr ⟨xs, xs', hc1, hc2, hc3, rfl, rfl⟩; exact eqActorS_ac xs xs' hc1 hc2 hc3)
theorem e_eqActorS : ∀ (xs : List AT) (xs' : List AT), (XW xs) → (XW xs') → (xs.length < 4398046511104) → q_eqActorS [.row false 2 (xs.map av), .row false 2 (xs'.map av)] = some (.bool (decide (xs = xs'))) := by
  intro xs xs' hc1 hc2 hc3
  refine kgr_eq (fun xs0 rr r2 h h2 => ?_) ⟨xs, xs', hc1, hc2, hc3, rfl, rfl⟩
  obtain ⟨xs1, xs'1, _, _, _, e1, rfl⟩ := h; obtain ⟨xs2, xs'2, _, _, _, e2, rfl⟩ := h2
  rw [e1] at e2
  simp only [List.cons.injEq, A.int.injEq, A.bool.injEq, A.agg.injEq, A.row.injEq, A.fn.injEq, A.rp.injEq, insv_inj, iv_inj, pv_inj, kv_inj, av_inj, true_and, and_true] at e2
  simp [e2]

theorem ok_szState : Kn.ok Try.prog (kof [(64, q_szActorS), (45, q_szIntSS)]) := kof_cons k_szActorS (kof_cons k_szIntSS ((kof_nil _)))
theorem szState_ac (xs : List AT) (qs : List (List Int)) (hs : List (List Int)) (t : Int) (n : Int) (hc1 : 0 ≤ n) (hc2 : n ≤ 1048576) (hc3 : XW xs) (hc4 : xs.length < 4398046511104) (hc5 : qs.length < 5864062014805) (hc6 : LW qs) (hc7 : hs.length < 5864062014805) (hc8 : LW hs) : AC Try.prog 16 [.agg [.row false 2 (xs.map av), .row false 1 (qs.map ivL), .row false 1 (hs.map ivL), .int .i64 t], .int .i64 n] (.int .i64 (szSt n xs qs hs)) := by
  have e_szActorS := e_szActorS
  have e_szIntSS := e_szIntSS
  have hivl := ivL_eq
  have hle := szT_le (n := n) (a := xs.length) (b := gtot aL xs) hc2
  have hle2 := szSS_le qs hle
  refine AC.of tab_ok Try.func16 rfl (Nat.le_of_ble_eq_true rfl) fun w0 S0 => ?_
  change G _ _ ⟨[(0, .agg [.row false 2 (xs.map av), .row false 1 (qs.map ivL), .row false 1 (hs.map ivL), .int .i64 t]), (1, .int .i64 n)], [], 24⟩
  apply G.seq
  refine G.rg tab_ok ok_szState (hk := ?_)
  apply G.seq
  refine G.rg tab_ok ok_szState (hk := ?_)
  apply G.seq
  apply G.seq
  refine G.rg tab_ok ok_szState (hk := ?_)
  refine G.fg [1, 2, 10] (hk := ?_)
  refine G.iff (h1 := fun h1 => ?_) (h2 := fun h1 => ?_)
  · try simp only [decide_eq_true_eq, decide_eq_false_iff_not, Bool.and_eq_true, Bool.and_eq_false_imp, Bool.or_eq_true, Bool.or_eq_false_iff, Bool.not_eq_true', Bool.not_eq_false', bne_iff_ne, beq_iff_eq, bne_eq_false_iff_eq, beq_eq_false_iff_ne, ne_eq, Int.ofNat_lt, Int.not_lt, Int.not_le, Int.ofNat_le, Nat.not_lt, Nat.not_le, gt_iff_lt, ge_iff_le] at h1
    apply G.seq
    refine G.rg tab_ok ok_szState (hk := ?_)
    refine G.fin tab_ok (hr := ?_)
    simp only [oneOrTup]
    congr 1
    unfold szSt
    rw [if_pos h1]
  · try simp only [decide_eq_true_eq, decide_eq_false_iff_not, Bool.and_eq_true, Bool.and_eq_false_imp, Bool.or_eq_true, Bool.or_eq_false_iff, Bool.not_eq_true', Bool.not_eq_false', bne_iff_ne, beq_iff_eq, bne_eq_false_iff_eq, beq_eq_false_iff_ne, ne_eq, Int.ofNat_lt, Int.not_lt, Int.not_le, Int.ofNat_le, Nat.not_lt, Nat.not_le, gt_iff_lt, ge_iff_le] at h1
    apply G.skip
    apply G.seq
    refine G.rg tab_ok ok_szState (hk := ?_)
    apply G.seq
    apply G.seq
    refine G.rg tab_ok ok_szState (hk := ?_)
    refine G.iff (h1 := fun h2 => ?_) (h2 := fun h2 => ?_)
    · try simp only [decide_eq_true_eq, decide_eq_false_iff_not, Bool.and_eq_true, Bool.and_eq_false_imp, Bool.or_eq_true, Bool.or_eq_false_iff, Bool.not_eq_true', Bool.not_eq_false', bne_iff_ne, beq_iff_eq, bne_eq_false_iff_eq, beq_eq_false_iff_ne, ne_eq, Int.ofNat_lt, Int.not_lt, Int.not_le, Int.ofNat_le, Nat.not_lt, Nat.not_le, gt_iff_lt, ge_iff_le] at h2
      apply G.seq
      refine G.rg tab_ok ok_szState (hk := ?_)
      refine G.fin tab_ok (hr := ?_)
      simp only [oneOrTup]
      congr 1
      unfold szSt
      rw [if_neg (by omega), if_pos h2]
    · try simp only [decide_eq_true_eq, decide_eq_false_iff_not, Bool.and_eq_true, Bool.and_eq_false_imp, Bool.or_eq_true, Bool.or_eq_false_iff, Bool.not_eq_true', Bool.not_eq_false', bne_iff_ne, beq_iff_eq, bne_eq_false_iff_eq, beq_eq_false_iff_ne, ne_eq, Int.ofNat_lt, Int.not_lt, Int.not_le, Int.ofNat_le, Nat.not_lt, Nat.not_le, gt_iff_lt, ge_iff_le] at h2
      apply G.skip
      apply G.seq
      refine G.rg tab_ok ok_szState (hk := ?_)
      apply G.seq
      apply G.seq
      refine G.rg tab_ok ok_szState (hk := ?_)
      refine G.fg [1, 22] (hk := ?_)
      refine G.iff (h1 := fun h3 => ?_) (h2 := fun h3 => ?_)
      · try simp only [decide_eq_true_eq, decide_eq_false_iff_not, Bool.and_eq_true, Bool.and_eq_false_imp, Bool.or_eq_true, Bool.or_eq_false_iff, Bool.not_eq_true', Bool.not_eq_false', bne_iff_ne, beq_iff_eq, bne_eq_false_iff_eq, beq_eq_false_iff_ne, ne_eq, Int.ofNat_lt, Int.not_lt, Int.not_le, Int.ofNat_le, Nat.not_lt, Nat.not_le, gt_iff_lt, ge_iff_le] at h3
        apply G.seq
        refine G.rg tab_ok ok_szState (hk := ?_)
        refine G.fin tab_ok (hr := ?_)
        simp only [oneOrTup]
        congr 1
        unfold szSt
        rw [if_neg (by omega), if_neg (by omega), szSS_lt h3]
      · try simp only [decide_eq_true_eq, decide_eq_false_iff_not, Bool.and_eq_true, Bool.and_eq_false_imp, Bool.or_eq_true, Bool.or_eq_false_iff, Bool.not_eq_true', Bool.not_eq_false', bne_iff_ne, beq_iff_eq, bne_eq_false_iff_eq, beq_eq_false_iff_ne, ne_eq, Int.ofNat_lt, Int.not_lt, Int.not_le, Int.ofNat_le, Nat.not_lt, Nat.not_le, gt_iff_lt, ge_iff_le] at h3
        apply G.skip
        apply G.seq
        refine G.rg tab_ok ok_szState (hk := ?_)
        refine G.fin tab_ok (hr := ?_)
        simp only [oneOrTup]
        congr 1
        unfold szSt
        rw [if_neg (by omega), if_neg (by omega)]
def r_szState (xs0 : List A) (rr : A) : Prop := ∃ (xs : List AT) (qs : List (List Int)) (hs : List (List Int)) (t : Int) (n : Int), (0 ≤ n) ∧ (n ≤ 1048576) ∧ (XW xs) ∧ (xs.length < 4398046511104) ∧ (qs.length < 5864062014805) ∧ (LW qs) ∧ (hs.length < 5864062014805) ∧ (LW hs) ∧ xs0 = [.agg [.row false 2 (xs.map av), .row false 1 (qs.map ivL), .row false 1 (hs.map ivL), .int .i64 t], .int .i64 n] ∧ rr = .int .i64 (szSt n xs qs hs)
noncomputable def q_szState : List A → Option A := kgr r_szState
theorem k_szState : KOk Try.prog (16, q_szState) := kgr_ok (enters_of Try.func16 rfl rfl) (by rintro xs0 rr ⟨xs, qs, hs, t, n, hc1, hc2, hc3, hc4, hc5, hc6, hc7, hc8, rfl, rfl⟩; exact szState_ac xs qs hs t n hc1 hc2 hc3 hc4 hc5 hc6 hc7 hc8)
theorem e_szState : ∀ (xs : List AT) (qs : List (List Int)) (hs : List (List Int)) (t : Int) (n : Int), (0 ≤ n) → (n ≤ 1048576) → (XW xs) → (xs.length < 4398046511104) → (qs.length < 5864062014805) → (LW qs) → (hs.length < 5864062014805) → (LW hs) → q_szState [.agg [.row false 2 (xs.map av), .row false 1 (qs.map ivL), .row false 1 (hs.map ivL), .int .i64 t], .int .i64 n] = some (.int .i64 (szSt n xs qs hs)) := by
  intro xs qs hs t n hc1 hc2 hc3 hc4 hc5 hc6 hc7 hc8
  refine kgr_eq (fun xs0 rr r2 h h2 => ?_) ⟨xs, qs, hs, t, n, hc1, hc2, hc3, hc4, hc5, hc6, hc7, hc8, rfl, rfl⟩
  obtain ⟨xs1, qs1, hs1, t1, n1, _, _, _, _, _, _, _, _, e1, rfl⟩ := h; obtain ⟨xs2, qs2, hs2, t2, n2, _, _, _, _, _, _, _, _, e2, rfl⟩ := h2
  rw [e1] at e2
  simp only [List.cons.injEq, A.int.injEq, A.agg.injEq, A.row.injEq, av_inj, ivL_inj, true_and, and_true] at e2
  obtain ⟨⟨e3, e4, e5, e6⟩, e7⟩ := e2
  subst e3 e4 e5 e6 e7
  rfl

theorem ok_toState : Kn.ok Try.prog (kof [(73, q_toActorS), (47, q_toIntSS)]) := kof_cons k_toActorS (kof_cons k_toIntSS ((kof_nil _)))
theorem toState_ac (xs : List AT) (qs : List (List Int)) (hs : List (List Int)) (t : Int) (hc1 : XW xs) (hc2 : xs.length < 4398046511104) (hc3 : qs.length < 5864062014805) (hc4 : LW qs) (hc5 : hs.length < 5864062014805) (hc6 : LW hs) : AC Try.prog 19 [.agg [.row false 2 (xs.map av), .row false 1 (qs.map ivL), .row false 1 (hs.map ivL), .int .i64 t]] (.agg [.row true 2 (xs.map oav), .row true 1 (qs.map ovL), .row true 1 (hs.map ovL), .int .i64 t]) := by
  have e_toActorS := e_toActorS
  have e_toIntSS := e_toIntSS
  have hivl := ivL_eq
  have hro := roLL_ovL
  have hpov := pureLL_ovL
  have hnov := noLoanLL_ovL
  refine AC.of tab_ok Try.func19 rfl (Nat.le_of_ble_eq_true rfl) fun w0 S0 => ?_
  change G _ _ ⟨[(0, .agg [.row false 2 (xs.map av), .row false 1 (qs.map ivL), .row false 1 (hs.map ivL), .int .i64 t])], [], 20⟩
  apply G.seq
  refine G.rg tab_ok ok_toState (hk := ?_)
  apply G.seq
  refine G.rg tab_ok ok_toState (hk := ?_)
  apply G.seq
  refine G.rg tab_ok ok_toState (hk := ?_)
  apply G.seq
  refine G.rg tab_ok ok_toState (hk := ?_)
  apply G.seq
  refine G.rg tab_ok ok_toState (hk := ?_)
  apply G.seq
  refine G.rg tab_ok ok_toState (hk := ?_)
  apply G.seq
  refine G.rg tab_ok ok_toState (hk := ?_)
  refine G.fin tab_ok (hr := ?_)
  rfl
def r_toState (xs0 : List A) (rr : A) : Prop := ∃ (xs : List AT) (qs : List (List Int)) (hs : List (List Int)) (t : Int), (XW xs) ∧ (xs.length < 4398046511104) ∧ (qs.length < 5864062014805) ∧ (LW qs) ∧ (hs.length < 5864062014805) ∧ (LW hs) ∧ xs0 = [.agg [.row false 2 (xs.map av), .row false 1 (qs.map ivL), .row false 1 (hs.map ivL), .int .i64 t]] ∧ rr = .agg [.row true 2 (xs.map oav), .row true 1 (qs.map ovL), .row true 1 (hs.map ovL), .int .i64 t]
noncomputable def q_toState : List A → Option A := kgr r_toState
theorem k_toState : KOk Try.prog (19, q_toState) := kgr_ok (enters_of Try.func19 rfl rfl) (by rintro xs0 rr ⟨xs, qs, hs, t, hc1, hc2, hc3, hc4, hc5, hc6, rfl, rfl⟩; exact toState_ac xs qs hs t hc1 hc2 hc3 hc4 hc5 hc6)
theorem e_toState : ∀ (xs : List AT) (qs : List (List Int)) (hs : List (List Int)) (t : Int), (XW xs) → (xs.length < 4398046511104) → (qs.length < 5864062014805) → (LW qs) → (hs.length < 5864062014805) → (LW hs) → q_toState [.agg [.row false 2 (xs.map av), .row false 1 (qs.map ivL), .row false 1 (hs.map ivL), .int .i64 t]] = some (.agg [.row true 2 (xs.map oav), .row true 1 (qs.map ovL), .row true 1 (hs.map ovL), .int .i64 t]) := by
  intro xs qs hs t hc1 hc2 hc3 hc4 hc5 hc6
  refine kgr_eq (fun xs0 rr r2 h h2 => ?_) ⟨xs, qs, hs, t, hc1, hc2, hc3, hc4, hc5, hc6, rfl, rfl⟩
  obtain ⟨xs1, qs1, hs1, t1, _, _, _, _, _, _, e1, rfl⟩ := h; obtain ⟨xs2, qs2, hs2, t2, _, _, _, _, _, _, e2, rfl⟩ := h2
  rw [e1] at e2
  simp only [List.cons.injEq, A.int.injEq, A.agg.injEq, A.row.injEq, av_inj, ivL_inj, true_and, and_true] at e2
  obtain ⟨e3, e4, e5, e6⟩ := e2
  subst e3 e4 e5 e6
  rfl

theorem ok_eqState : Kn.ok Try.prog (kof [(81, q_eqActorS), (49, q_eqIntSS)]) := kof_cons k_eqActorS (kof_cons k_eqIntSS ((kof_nil _)))
theorem eqState_ac (xs : List AT) (qs : List (List Int)) (hs : List (List Int)) (t : Int) (xs' : List AT) (qs' : List (List Int)) (hs' : List (List Int)) (t' : Int) (hc1 : XW xs) (hc2 : xs.length < 4398046511104) (hc3 : qs.length < 5864062014805) (hc4 : LW qs) (hc5 : hs.length < 5864062014805) (hc6 : LW hs) (hc7 : XW xs') (hc8 : LW qs') (hc9 : LW hs') : AC Try.prog 22 [.agg [.row false 2 (xs.map av), .row false 1 (qs.map ivL), .row false 1 (hs.map ivL), .int .i64 t], .agg [.row false 2 (xs'.map av), .row false 1 (qs'.map ivL), .row false 1 (hs'.map ivL), .int .i64 t']] (.bool (decide (xs = xs') && decide (qs = qs') && decide (hs = hs') && decide (t = t'))) := by
  have e_eqActorS := e_eqActorS
  have e_eqIntSS := e_eqIntSS
  have hivl := ivL_eq
  refine AC.of tab_ok Try.func22 rfl (Nat.le_of_ble_eq_true rfl) fun w0 S0 => ?_
  change G _ _ ⟨[(0, .agg [.row false 2 (xs.map av), .row false 1 (qs.map ivL), .row false 1 (hs.map ivL), .int .i64 t]), (1, .agg [.row false 2 (xs'.map av), .row false 1 (qs'.map ivL), .row false 1 (hs'.map ivL), .int .i64 t'])], [], 28⟩
  apply G.seq
  refine G.rg tab_ok ok_eqState (hk := ?_)
  apply G.seq
  apply G.seq
  refine G.rg tab_ok ok_eqState (hk := ?_)
  refine G.fg [2, 3, 10] (hk := ?_)
  refine G.iff (h1 := fun h1 => ?_) (h2 := fun h1 => ?_)
  · try simp only [decide_eq_true_eq, decide_eq_false_iff_not, Bool.and_eq_true, Bool.and_eq_false_imp, Bool.or_eq_true, Bool.or_eq_false_iff, Bool.not_eq_true', Bool.not_eq_false', bne_iff_ne, beq_iff_eq, bne_eq_false_iff_eq, beq_eq_false_iff_ne, ne_eq, Int.ofNat_lt, Int.not_lt, Int.not_le, Int.ofNat_le, Nat.not_lt, Nat.not_le, gt_iff_lt, ge_iff_le] at h1
    apply G.seq
    refine G.rg tab_ok ok_eqState (hk := ?_)
    refine G.fin tab_ok (hr := ?_)
    simp [oneOrTup, *]
  · try simp only [decide_eq_true_eq, decide_eq_false_iff_not, Bool.and_eq_true, Bool.and_eq_false_imp, Bool.or_eq_true, Bool.or_eq_false_iff, Bool.not_eq_true', Bool.not_eq_false', bne_iff_ne, beq_iff_eq, bne_eq_false_iff_eq, beq_eq_false_iff_ne, ne_eq, Int.ofNat_lt, Int.not_lt, Int.not_le, Int.ofNat_le, Nat.not_lt, Nat.not_le, gt_iff_lt, ge_iff_le] at h1
    apply G.skip
    apply G.seq
    apply G.seq
    refine G.rg tab_ok ok_eqState (hk := ?_)
    refine G.iff (h1 := fun h2 => ?_) (h2 := fun h2 => ?_)
    · try simp only [decide_eq_true_eq, decide_eq_false_iff_not, Bool.and_eq_true, Bool.and_eq_false_imp, Bool.or_eq_true, Bool.or_eq_false_iff, Bool.not_eq_true', Bool.not_eq_false', bne_iff_ne, beq_iff_eq, bne_eq_false_iff_eq, beq_eq_false_iff_ne, ne_eq, Int.ofNat_lt, Int.not_lt, Int.not_le, Int.ofNat_le, Nat.not_lt, Nat.not_le, gt_iff_lt, ge_iff_le] at h2
      apply G.seq
      refine G.rg tab_ok ok_eqState (hk := ?_)
      refine G.fin tab_ok (hr := ?_)
      simp [oneOrTup, *]
    · try simp only [decide_eq_true_eq, decide_eq_false_iff_not, Bool.and_eq_true, Bool.and_eq_false_imp, Bool.or_eq_true, Bool.or_eq_false_iff, Bool.not_eq_true', Bool.not_eq_false', bne_iff_ne, beq_iff_eq, bne_eq_false_iff_eq, beq_eq_false_iff_ne, ne_eq, Int.ofNat_lt, Int.not_lt, Int.not_le, Int.ofNat_le, Nat.not_lt, Nat.not_le, gt_iff_lt, ge_iff_le] at h2
      apply G.skip
      apply G.seq
      apply G.seq
      refine G.rg tab_ok ok_eqState (hk := ?_)
      refine G.fg [2, 3, 22] (hk := ?_)
      refine G.iff (h1 := fun h3 => ?_) (h2 := fun h3 => ?_)
      · try simp only [decide_eq_true_eq, decide_eq_false_iff_not, Bool.and_eq_true, Bool.and_eq_false_imp, Bool.or_eq_true, Bool.or_eq_false_iff, Bool.not_eq_true', Bool.not_eq_false', bne_iff_ne, beq_iff_eq, bne_eq_false_iff_eq, beq_eq_false_iff_ne, ne_eq, Int.ofNat_lt, Int.not_lt, Int.not_le, Int.ofNat_le, Nat.not_lt, Nat.not_le, gt_iff_lt, ge_iff_le] at h3
        apply G.seq
        refine G.rg tab_ok ok_eqState (hk := ?_)
        refine G.fin tab_ok (hr := ?_)
        simp [oneOrTup, *]
      · try simp only [decide_eq_true_eq, decide_eq_false_iff_not, Bool.and_eq_true, Bool.and_eq_false_imp, Bool.or_eq_true, Bool.or_eq_false_iff, Bool.not_eq_true', Bool.not_eq_false', bne_iff_ne, beq_iff_eq, bne_eq_false_iff_eq, beq_eq_false_iff_ne, ne_eq, Int.ofNat_lt, Int.not_lt, Int.not_le, Int.ofNat_le, Nat.not_lt, Nat.not_le, gt_iff_lt, ge_iff_le] at h3
        apply G.skip
        apply G.seq
        apply G.seq
        refine G.rg tab_ok ok_eqState (hk := ?_)
        refine G.iff (h1 := fun h4 => ?_) (h2 := fun h4 => ?_)
        · try simp only [decide_eq_true_eq, decide_eq_false_iff_not, Bool.and_eq_true, Bool.and_eq_false_imp, Bool.or_eq_true, Bool.or_eq_false_iff, Bool.not_eq_true', Bool.not_eq_false', bne_iff_ne, beq_iff_eq, bne_eq_false_iff_eq, beq_eq_false_iff_ne, ne_eq, Int.ofNat_lt, Int.not_lt, Int.not_le, Int.ofNat_le, Nat.not_lt, Nat.not_le, gt_iff_lt, ge_iff_le] at h4
          apply G.seq
          refine G.rg tab_ok ok_eqState (hk := ?_)
          refine G.fin tab_ok (hr := ?_)
          simp [oneOrTup, *]
        · try simp only [decide_eq_true_eq, decide_eq_false_iff_not, Bool.and_eq_true, Bool.and_eq_false_imp, Bool.or_eq_true, Bool.or_eq_false_iff, Bool.not_eq_true', Bool.not_eq_false', bne_iff_ne, beq_iff_eq, bne_eq_false_iff_eq, beq_eq_false_iff_ne, ne_eq, Int.ofNat_lt, Int.not_lt, Int.not_le, Int.ofNat_le, Nat.not_lt, Nat.not_le, gt_iff_lt, ge_iff_le] at h4
          apply G.skip
          apply G.seq
          refine G.rg tab_ok ok_eqState (hk := ?_)
          refine G.fin tab_ok (hr := ?_)
          simp [oneOrTup, *]
def r_eqState (xs0 : List A) (rr : A) : Prop := ∃ (xs : List AT) (qs : List (List Int)) (hs : List (List Int)) (t : Int) (xs' : List AT) (qs' : List (List Int)) (hs' : List (List Int)) (t' : Int), (XW xs) ∧ (xs.length < 4398046511104) ∧ (qs.length < 5864062014805) ∧ (LW qs) ∧ (hs.length < 5864062014805) ∧ (LW hs) ∧ (XW xs') ∧ (LW qs') ∧ (LW hs') ∧ xs0 = [.agg [.row false 2 (xs.map av), .row false 1 (qs.map ivL), .row false 1 (hs.map ivL), .int .i64 t], .agg [.row false 2 (xs'.map av), .row false 1 (qs'.map ivL), .row false 1 (hs'.map ivL), .int .i64 t']] ∧ rr = .bool (decide (xs = xs') && decide (qs = qs') && decide (hs = hs') && decide (t = t'))
noncomputable def q_eqState : List A → Option A := kgr r_eqState
theorem k_eqState : KOk Try.prog (22, q_eqState) := kgr_ok (enters_of Try.func22 rfl rfl) (by rintro xs0 rr ⟨xs, qs, hs, t, xs', qs', hs', t', hc1, hc2, hc3, hc4, hc5, hc6, hc7, hc8, hc9, rfl, rfl⟩; exact eqState_ac xs qs hs t xs' qs' hs' t' hc1 hc2 hc3 hc4 hc5 hc6 hc7 hc8 hc9)
theorem e_eqState : ∀ (xs : List AT) (qs : List (List Int)) (hs : List (List Int)) (t : Int) (xs' : List AT) (qs' : List (List Int)) (hs' : List (List Int)) (t' : Int), (XW xs) → (xs.length < 4398046511104) → (qs.length < 5864062014805) → (LW qs) → (hs.length < 5864062014805) → (LW hs) → (XW xs') → (LW qs') → (LW hs') → q_eqState [.agg [.row false 2 (xs.map av), .row false 1 (qs.map ivL), .row false 1 (hs.map ivL), .int .i64 t], .agg [.row false 2 (xs'.map av), .row false 1 (qs'.map ivL), .row false 1 (hs'.map ivL), .int .i64 t']] = some (.bool (decide (xs = xs') && decide (qs = qs') && decide (hs = hs') && decide (t = t'))) := by
  intro xs qs hs t xs' qs' hs' t' hc1 hc2 hc3 hc4 hc5 hc6 hc7 hc8 hc9
  refine kgr_eq (fun xs0 rr r2 h h2 => ?_) ⟨xs, qs, hs, t, xs', qs', hs', t', hc1, hc2, hc3, hc4, hc5, hc6, hc7, hc8, hc9, rfl, rfl⟩
  obtain ⟨xs1, qs1, hs1, t1, xs'1, qs'1, hs'1, t'1, _, _, _, _, _, _, _, _, _, e1, rfl⟩ := h; obtain ⟨xs2, qs2, hs2, t2, xs'2, qs'2, hs'2, t'2, _, _, _, _, _, _, _, _, _, e2, rfl⟩ := h2
  rw [e1] at e2
  simp only [List.cons.injEq, A.int.injEq, A.agg.injEq, A.row.injEq, av_inj, ivL_inj, true_and, and_true] at e2
  obtain ⟨⟨e3, e4, e5, e6⟩, e7, e8, e9, ea⟩ := e2
  subst e3 e4 e5 e6 e7 e8 e9 ea
  rfl

end Go.Proofs.Yticgaflgbljhlaa.Ab
