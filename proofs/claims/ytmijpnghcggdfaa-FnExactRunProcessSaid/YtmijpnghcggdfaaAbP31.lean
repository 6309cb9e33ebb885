/- Walks of functions of the program: what each answers, for all arguments that meet its conditions. -/
import Derived.Test.YtmijpnghcggdfaaAbP30
import Derived.Test.YtmijpnghcggdfaaAbP12
import Derived.Test.YtmijpnghcggdfaaAbAutoF
namespace Go.Proofs.Ytmijpnghcggdfaa.Ab
open Go
set_option linter.unusedVariables false
set_option linter.unusedSimpArgs false
set_option maxHeartbeats 4000000

theorem ok_l2Step : Kn.ok Try.prog (kof [(95, q_l1Copy), (109, q_l2Value)]) := kof_cons k_l1Copy (kof_cons k_l2Value ((kof_nil _)))
theorem l2Step_ac (i : Int) (o : Int) (l : List I4) (pc : Int) (rs : List Int) (token : Int) (hc1 : 0 ≤ pc) (hc2 : pc < (l.length : Int)) (hc3 : l.length ≤ 24) (hc4 : RegOk (l.getD pc.toNat default) rs) : AC Try.prog 88 [.agg [.int .i64 i, .int .i64 o, .row false 4 (l.map insv)], .agg [.int .i64 pc, .row false 1 (rs.map iv)], .int .i64 token] (.tup [.agg [.int .i64 (stepPc (l.getD pc.toNat default) pc rs), .row true 1 ((stepRs (l.getD pc.toNat default) rs token).map iv)], .int .i64 (stepW (l.getD pc.toNat default) rs)]) := by
  have e_l1Copy := e_l1Copy
  have e_l2Value := e_l2Value
  obtain ⟨⟨a, b, c, d⟩, hX⟩ : ∃ x, l.getD pc.toNat default = x := ⟨_, rfl⟩
  rw [hX] at hc4
  simp only [hX]
  have hb := hc4.b8
  have ha0 : 0 ≤ b := hc4.a0
  have ha1 : b < (rs.length : Int) := hc4.a1
  have ha2 : b.toNat < rs.length := by omega
  have hpl : pc.toNat < l.length := by omega
  have hget : (List.map iv rs)[b.toNat]? = some [.int .i64 (rs.getD b.toNat default)] := by simp [ha2, iv]
  have hset : ∀ v : Int, (List.map iv rs).set b.toNat [.int .i64 v] = List.map iv (rs.set b.toNat v) := fun v => by rw [List.map_set]; rfl
  have hlset : ∀ v : Int, rs.length ≤ (rs.set b.toNat v).length := fun v => by simp
  have htk : ∀ v : Int, List.take rs.length (List.map iv (rs.set b.toNat v)) = List.map iv (rs.set b.toNat v) := fun v => List.take_of_length_le (by simp)
  have hwp : IntKind.i64.wrap (pc + 1) = pc + 1 := wrap64 (by omega) (by omega)
  have hcb : rs.length ≤ 1048576 := by omega
  refine AC.of tab_ok Try.func88 rfl (Nat.le_of_ble_eq_true rfl) fun w0 S0 => ?_
  change G _ _ ⟨[(0, .agg [.int .i64 i, .int .i64 o, .row false 4 (l.map insv)]), (1, .agg [.int .i64 pc, .row false 1 (rs.map iv)]), (2, .int .i64 token)], [], 79⟩
  apply G.seq
  refine G.rg tab_ok ok_l2Step (hk := ?_)
  apply G.seq
  refine G.rg tab_ok ok_l2Step (hk := ?_)
  apply G.seq
  apply G.joinR
  · intro hk
    refine G.drawL (c := ⟨Try.prog, tab, _, _, _, _, _⟩) mixed tab_ok ok_l2Step 9 ?_ rfl
    refine AnyL.gg (n := 4) 5 [0, 1, 2, 3, 4] (h := ?_)
    refine AnyL.fk2 (n := 3) 5 7 (k1 := ?_) (k2 := ?_)
    · skip
      refine AnyL.gg (n := 0) 3 [6, 7, 8] (h := ?_)
      exact AnyL.ln [2, 4, 6, 8, 9, 37, 38, 39, 40, 41, 42, 43, 44, 45, 46, 47, 48, 51, 52, 53, 54, 55, 56, 57, 58, 59, 60, 61, 62, 67, 68, 69, 70, 71, 72, 73, 74, 75, 76] (h := hk)
    · skip
      refine AnyL.gg (n := 0) 3 [5, 6, 8] (h := ?_)
      exact AnyL.ln [2, 4, 6, 8, 9, 37, 38, 39, 40, 41, 42, 43, 44, 45, 46, 47, 48, 51, 52, 53, 54, 55, 56, 57, 58, 59, 60, 61, 62, 67, 68, 69, 70, 71, 72, 73, 74, 75, 76] (h := hk)
  apply G.seq
  refine G.rg tab_ok ok_l2Step (hk := ?_)
  apply G.seq
  apply G.seq
  refine G.rg tab_ok ok_l2Step (hk := ?_)
  refine G.fg [2, 4, 6, 8, 9, 10, 26, 37, 38, 39, 40, 41, 42, 43, 44, 45, 46, 47, 48, 51, 52, 53, 54, 55, 56, 57, 58, 59, 60, 61, 62, 67, 68, 69, 70, 71, 72, 73, 74, 75, 76] (hk := ?_)
  refine G.iff (h1 := fun h1 => ?_) (h2 := fun h1 => ?_)
  · try simp only [decide_eq_true_eq, decide_eq_false_iff_not, Bool.and_eq_true, Bool.and_eq_false_imp, Bool.or_eq_true, Bool.or_eq_false_iff, Bool.not_eq_true', Bool.not_eq_false', bne_iff_ne, beq_iff_eq, bne_eq_false_iff_eq, beq_eq_false_iff_ne, ne_eq, Int.ofNat_lt, Int.not_lt, Int.not_le, Int.ofNat_le, Nat.not_lt, Nat.not_le, gt_iff_lt, ge_iff_le] at h1
    have h1w := h1
    clear h1
    change id _ at h1w
    refine G.rg tab_ok ok_l2Step (hk := ?_)
    apply G.seq
    apply G.seq
    refine G.rg tab_ok ok_l2Step (hk := ?_)
    refine G.fg [2, 4, 6, 8, 9, 10, 63, 67, 68, 69, 70, 71, 72, 73, 74, 75, 76] (hk := ?_)
    refine G.iff (h1 := fun h2 => ?_) (h2 := fun h2 => ?_)
    · try simp only [decide_eq_true_eq, decide_eq_false_iff_not, Bool.and_eq_true, Bool.and_eq_false_imp, Bool.or_eq_true, Bool.or_eq_false_iff, Bool.not_eq_true', Bool.not_eq_false', bne_iff_ne, beq_iff_eq, bne_eq_false_iff_eq, beq_eq_false_iff_ne, ne_eq, Int.ofNat_lt, Int.not_lt, Int.not_le, Int.ofNat_le, Nat.not_lt, Nat.not_le, gt_iff_lt, ge_iff_le] at h2
      refine G.rg tab_ok ok_l2Step (hk := ?_)
      apply G.seq
      refine G.dr mixed tab_ok ok_l2Step [0, 1, 2, 3, 4, 5, 6, 7, 8, 9, 10] (hk := ?_)
      apply G.seq
      refine G.rg tab_ok ok_l2Step (hk := ?_)
      refine G.fin tab_ok (hr := ?_)
      have h1 : a = 2 := h1w
      have hs : stepPc (a, b, c, d) pc rs = c := if_pos (by simp only [rg]; omega)
      have hv : stepW (a, b, c, d) rs = rs.getD b.toNat default := by simp only [stepW, rg, h1, if_true, if_false, Int.reduceEq]
      simp only [oneOrTup, hs, hv, stepRs]
    · try simp only [decide_eq_true_eq, decide_eq_false_iff_not, Bool.and_eq_true, Bool.and_eq_false_imp, Bool.or_eq_true, Bool.or_eq_false_iff, Bool.not_eq_true', Bool.not_eq_false', bne_iff_ne, beq_iff_eq, bne_eq_false_iff_eq, beq_eq_false_iff_ne, ne_eq, Int.ofNat_lt, Int.not_lt, Int.not_le, Int.ofNat_le, Nat.not_lt, Nat.not_le, gt_iff_lt, ge_iff_le] at h2
      apply G.skip
      apply G.seq
      refine G.dr mixed tab_ok ok_l2Step [0, 1, 2, 3, 4, 5, 6, 7, 8, 9, 10] (hk := ?_)
      apply G.seq
      refine G.rg tab_ok ok_l2Step (hk := ?_)
      refine G.fin tab_ok (hr := ?_)
      have h1 : a = 2 := h1w
      have hs : stepPc (a, b, c, d) pc rs = pc + 1 := if_neg (by simp only [rg]; omega)
      have hv : stepW (a, b, c, d) rs = rs.getD b.toNat default := by simp only [stepW, rg, h1, if_true, if_false, Int.reduceEq]
      simp only [oneOrTup, hs, hv, stepRs]
  · try simp only [decide_eq_true_eq, decide_eq_false_iff_not, Bool.and_eq_true, Bool.and_eq_false_imp, Bool.or_eq_true, Bool.or_eq_false_iff, Bool.not_eq_true', Bool.not_eq_false', bne_iff_ne, beq_iff_eq, bne_eq_false_iff_eq, beq_eq_false_iff_ne, ne_eq, Int.ofNat_lt, Int.not_lt, Int.not_le, Int.ofNat_le, Nat.not_lt, Nat.not_le, gt_iff_lt, ge_iff_le] at h1
    have h1w := h1
    clear h1
    change id _ at h1w
    apply G.skip
    apply G.seq
    apply G.seq
    refine G.rg tab_ok ok_l2Step (hk := ?_)
    refine G.fg [2, 4, 6, 8, 9, 10, 63, 67, 68, 69, 70, 71, 72, 73, 74, 75, 76] (hk := ?_)
    refine G.iff (h1 := fun h3 => ?_) (h2 := fun h3 => ?_)
    · try simp only [decide_eq_true_eq, decide_eq_false_iff_not, Bool.and_eq_true, Bool.and_eq_false_imp, Bool.or_eq_true, Bool.or_eq_false_iff, Bool.not_eq_true', Bool.not_eq_false', bne_iff_ne, beq_iff_eq, bne_eq_false_iff_eq, beq_eq_false_iff_ne, ne_eq, Int.ofNat_lt, Int.not_lt, Int.not_le, Int.ofNat_le, Nat.not_lt, Nat.not_le, gt_iff_lt, ge_iff_le] at h3
      refine G.rg tab_ok ok_l2Step (hk := ?_)
      apply G.seq
      refine G.dr mixed tab_ok ok_l2Step [0, 1, 2, 3, 4, 5, 6, 7, 8, 9, 10] (hk := ?_)
      apply G.seq
      refine G.rg tab_ok ok_l2Step (hk := ?_)
      refine G.fin tab_ok (hr := ?_)
      have h1 : ¬ a = 2 := h1w
      have hs : stepPc (a, b, c, d) pc rs = c := if_pos (by simp only [rg]; omega)
      have hv : stepW (a, b, c, d) rs = 0 := by simp only [stepW, rg, h1, if_true, if_false, Int.reduceEq]
      simp only [oneOrTup, hs, hv, stepRs]
    · try simp only [decide_eq_true_eq, decide_eq_false_iff_not, Bool.and_eq_true, Bool.and_eq_false_imp, Bool.or_eq_true, Bool.or_eq_false_iff, Bool.not_eq_true', Bool.not_eq_false', bne_iff_ne, beq_iff_eq, bne_eq_false_iff_eq, beq_eq_false_iff_ne, ne_eq, Int.ofNat_lt, Int.not_lt, Int.not_le, Int.ofNat_le, Nat.not_lt, Nat.not_le, gt_iff_lt, ge_iff_le] at h3
      apply G.skip
      apply G.seq
      refine G.dr mixed tab_ok ok_l2Step [0, 1, 2, 3, 4, 5, 6, 7, 8, 9, 10] (hk := ?_)
      apply G.seq
      refine G.rg tab_ok ok_l2Step (hk := ?_)
      refine G.fin tab_ok (hr := ?_)
      have h1 : ¬ a = 2 := h1w
      have hs : stepPc (a, b, c, d) pc rs = pc + 1 := if_neg (by simp only [rg]; omega)
      have hv : stepW (a, b, c, d) rs = 0 := by simp only [stepW, rg, h1, if_true, if_false, Int.reduceEq]
      simp only [oneOrTup, hs, hv, stepRs]
def r_l2Step (xs0 : List A) (rr : A) : Prop := ∃ (i : Int) (o : Int) (l : List I4) (pc : Int) (rs : List Int) (token : Int), (0 ≤ pc) ∧ (pc < (l.length : Int)) ∧ (l.length ≤ 24) ∧ (RegOk (l.getD pc.toNat default) rs) ∧ xs0 = [.agg [.int .i64 i, .int .i64 o, .row false 4 (l.map insv)], .agg [.int .i64 pc, .row false 1 (rs.map iv)], .int .i64 token] ∧ rr = .tup [.agg [.int .i64 (stepPc (l.getD pc.toNat default) pc rs), .row true 1 ((stepRs (l.getD pc.toNat default) rs token).map iv)], .int .i64 (stepW (l.getD pc.toNat default) rs)]
noncomputable def q_l2Step : List A → Option A := kgr r_l2Step
theorem k_l2Step : KOk Try.prog (88, q_l2Step) := kgr_ok (enters_of Try.func88 rfl rfl) (by rintro xs0 rr ⟨i, o, l, pc, rs, token, hc1, hc2, hc3, hc4, rfl, rfl⟩; exact l2Step_ac i o l pc rs token hc1 hc2 hc3 hc4)
theorem e_l2Step : ∀ (i : Int) (o : Int) (l : List I4) (pc : Int) (rs : List Int) (token : Int), (0 ≤ pc) → (pc < (l.length : Int)) → (l.length ≤ 24) → (RegOk (l.getD pc.toNat default) rs) → q_l2Step [.agg [.int .i64 i, .int .i64 o, .row false 4 (l.map insv)], .agg [.int .i64 pc, .row false 1 (rs.map iv)], .int .i64 token] = some (.tup [.agg [.int .i64 (stepPc (l.getD pc.toNat default) pc rs), .row true 1 ((stepRs (l.getD pc.toNat default) rs token).map iv)], .int .i64 (stepW (l.getD pc.toNat default) rs)]) := by
  intro i o l pc rs token hc1 hc2 hc3 hc4
  refine kgr_eq (fun xs0 rr r2 h h2 => ?_) ⟨i, o, l, pc, rs, token, hc1, hc2, hc3, hc4, rfl, rfl⟩
  obtain ⟨i1, o1, l1, pc1, rs1, token1, _, _, _, _, e1, rfl⟩ := h; obtain ⟨i2, o2, l2, pc2, rs2, token2, _, _, _, _, e2, rfl⟩ := h2
  rw [e1] at e2
  simp only [List.cons.injEq, A.int.injEq, A.bool.injEq, A.agg.injEq, A.row.injEq, A.fn.injEq, A.rp.injEq, insv_inj, iv_inj, true_and, and_true] at e2
  simp [e2]

end Go.Proofs.Ytmijpnghcggdfaa.Ab
