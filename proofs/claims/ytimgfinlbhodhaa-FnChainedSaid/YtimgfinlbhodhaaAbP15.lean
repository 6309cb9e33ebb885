/- Walks of functions of the program: what each answers, for all arguments that meet its conditions. -/
import Derived.Test.YtimgfinlbhodhaaFwGc
import Derived.Test.YtimgfinlbhodhaaAbP11
namespace Go.Proofs.Ytimgfinlbhodhaa.Ab
open Go
set_option linter.unusedVariables false
set_option linter.unusedSimpArgs false
set_option maxHeartbeats 4000000
theorem ok_implHoldT : Kn.ok Try.prog (kof [(97, q_implIsStream), (132, q_repeatInt)]) := kof_cons k_implIsStream (kof_cons k_repeatInt ((kof_nil _)))
theorem implHoldT_ac (rs : List Int) (n : Int) (hc1 : rs.length < 17592186044416) (hc2 : strOk rs = true) (hc3 : ¬ n < 0) (hc4 : 0 < rs.length → n ≤ 400) (hc5 : IntKind.i64.wrap (rs.length * n) ≤ 400 ∨ rs.length = 0) : AC Try.prog 56 [.row false 1 (rs.map iv), .int .i64 n] (.tup [.row true 1 ((holdL n.toNat rs).map iv), .bool true]) := by
  have e_implIsStream := e_implIsStream
  have e_repeatInt := e_repeatInt
  have hl := strOk_len hc2
  have hp1 : ∀ (a b : List Int), pureLL (List.map iv a ++ List.map iv b) = true := fun a b => by rw [pureLL_app, pureLL_iv, pureLL_iv]; rfl
  have htk : ∀ x : Int, List.take n.toNat (List.map iv (List.replicate n.toNat x)) = List.map iv (List.replicate n.toNat x) := fun x => List.take_of_length_le (by simp)
  have hn0 : 0 ≤ n := by omega
  have hguard : (decide ((rs.length : Int) > 0) && decide (n > 400) || decide (IntKind.i64.wrap ((rs.length : Int) * n) > 400) && decide ((rs.length : Int) > 0)) = false := by
    rcases Nat.eq_zero_or_pos rs.length with h0 | h0
    · simp [List.eq_nil_of_length_eq_zero h0]
    · have a1 := hc4 h0
      have a2 := hc5.resolve_right (by omega)
      have b2 : ¬ n > 400 := by omega
      have b3 : ¬ IntKind.i64.wrap ((rs.length : Int) * n) > 400 := by omega
      simp [b2, b3]
  refine AC.of tab_ok Try.func56 rfl (Nat.le_of_ble_eq_true rfl) fun w0 S0 => ?_
  change G _ _ ⟨[(0, .row false 1 (rs.map iv)), (1, .int .i64 n)], [], 52⟩
  apply G.seq
  refine G.rg tab_ok ok_implHoldT (hk := ?_)
  apply G.seq
  apply G.seq
  refine G.rg tab_ok ok_implHoldT (hk := ?_)
  refine G.fg [0, 1, 36] (hk := ?_)
  refine G.iffF (h2 := ?_)
  apply G.skip
  apply G.seq
  refine G.rg tab_ok ok_implHoldT (hk := ?_)
  apply G.seq
  apply G.seq
  refine G.rg tab_ok ok_implHoldT (hk := ?_)
  apply G.block
  refine G.cn [1, 6, 38, 39, 40] [0] (h := ?_)
  refine G.loopX (fun j : Nat => ⟨[(1, .int .i64 n), (6, .sl 0 0 (holdL n.toNat (rs.take j)).length), (38, .row false 1 (rs.map iv)), (39, .int .i64 rs.length), (40, .int .i64 j)], [some (1, (holdL n.toNat (rs.take j)).map iv)], 52⟩) (fun j => j ≤ rs.length) (fun j => rs.length - j) (0) (Nat.zero_le _) (by simp [holdL]) ?_
  intro j hj J hJ
  have hw : IntKind.i64.wrap ((j : Int) + 1) = (j : Int) + 1 := wrap64 (by omega) (by omega)
  apply G.seq
  refine G.rg tab_ok ok_implHoldT (hk := ?_)
  apply G.seq
  refine G.iff (h1 := fun h2 => ?_) (h2 := fun h2 => ?_)
  · try simp only [zz, bne_iff_ne, beq_iff_eq, bne_eq_false_iff_eq, beq_eq_false_iff_ne, ne_eq, gt_iff_lt, ge_iff_le] at h2
    apply G.skip
    apply G.seq
    apply G.block
    apply G.seq
    refine G.rg tab_ok ok_implHoldT (hk := ?_)
    have hn4 : n ≤ 400 := hc4 (by omega)
    have hbig : (holdL n.toNat (rs.take j)).length ≤ 160000 := by
      rw [holdL_len, List.length_take]
      have := Nat.mul_le_mul (Nat.le_trans (Nat.min_le_right j rs.length) hl) (show n.toNat ≤ 400 by omega)
      omega
    have hb1 : (((holdL n.toNat (rs.take j)).length + n.toNat : Nat) : Int) ≤ 4611686018427387904 := by omega
    have hb2 : ((holdL n.toNat (rs.take j)).length + n.toNat) * 8 ≤ 70368744177664 := by omega
    refine G.rg tab_ok ok_implHoldT (hk := ?_)
    apply G.blk
    refine G.rg tab_ok ok_implHoldT (hk := ?_)
    refine G.cn [1, 6, 38, 39, 40] [3] (h := ?_)
    exact G.upto (hJ (j + 1) (by omega) (by omega)) (by rw [holdL_step _ h2]; simp)
  · try simp only [zz, bne_iff_ne, beq_iff_eq, bne_eq_false_iff_eq, beq_eq_false_iff_ne, ne_eq, gt_iff_lt, ge_iff_le] at h2
    refine G.exit rfl ?_
    apply G.seq
    obtain rfl : j = rs.length := by omega
    rw [List.take_length]
    refine G.rg tab_ok ok_implHoldT (hk := ?_)
    refine G.fin tab_ok (hr := ?_)
    rfl
theorem ok_implHoldB : Kn.ok Try.prog (kof [(97, q_implIsStream), (132, q_repeatInt)]) := kof_cons k_implIsStream (kof_cons k_repeatInt ((kof_nil _)))
theorem implHoldB_ac (rs : List Int) (n : Int) (hc1 : rs.length < 17592186044416) (hc2 : (!(strOk rs) || decide (n < 0) || (decide ((rs.length : Int) > 0) && decide (n > 400)) || (decide (IntKind.i64.wrap ((rs.length : Int) * n) > 400) && decide ((rs.length : Int) > 0))) = true) : AC Try.prog 56 [.row false 1 (rs.map iv), .int .i64 n] (.tup [.nils, .bool false]) := by
  have e_implIsStream := e_implIsStream
  have e_repeatInt := e_repeatInt
  refine AC.of tab_ok Try.func56 rfl (Nat.le_of_ble_eq_true rfl) fun w0 S0 => ?_
  change G _ _ ⟨[(0, .row false 1 (rs.map iv)), (1, .int .i64 n)], [], 52⟩
  apply G.seq
  refine G.rg tab_ok ok_implHoldB (hk := ?_)
  apply G.seq
  apply G.seq
  refine G.rg tab_ok ok_implHoldB (hk := ?_)
  refine G.fg [0, 1, 36] (hk := ?_)
  refine G.iffT (ht := by first | assumption | simpa using hc2) (h1 := ?_)
  apply G.seq
  refine G.rg tab_ok ok_implHoldB (hk := ?_)
  refine G.fin tab_ok (hr := ?_)
  rfl
theorem strOk_hold {rs : List Int} {n : Int} (h : strOk rs = true) (h2 : rs.length * n.toNat ≤ 400) : strOk (holdL n.toNat rs) = true := by
  simp only [strOk, Bool.and_eq_true, decide_eq_true_eq] at h ⊢
  refine ⟨?_, by rw [holdL_len]; omega⟩
  rw [List.all_eq_true] at h ⊢
  intro x hx
  simp only [holdL, List.mem_flatMap] at hx
  obtain ⟨y, hy, hx⟩ := hx
  rw [(List.mem_replicate.1 hx).2]
  exact h.1 y hy
theorem implHold_ac (rs : List Int) (n : Int) (hc1 : rs.length < 17592186044416) : AC Try.prog 56 [.row false 1 (rs.map iv), .int .i64 n] (.tup [.row true 1 ((holdOut rs n).1.map iv), .bool (holdOut rs n).2]) := by
  cases hb : holdBad rs n with
  | true =>
    refine AC.weak (implHoldB_ac rs n hc1 (by unfold holdBad at hb; rw [hb]; rfl)) fun w S v f h => ?_
    simp only [holdOut, hb, if_true, List.map_nil]
    exact weak_nil2 h
  | false =>
    have hb2 := hb
    unfold holdBad at hb2
    have hb3 := hb2
    simp only [Bool.or_eq_false_iff, Bool.not_eq_false', Bool.and_eq_false_imp, decide_eq_false_iff_not, decide_eq_true_eq] at hb2
    obtain ⟨⟨h1, h2⟩, h3⟩ := hb2
    have h4 : 0 < rs.length → n ≤ 400 := fun h => by have := h3 (by omega); omega
    have hl := strOk_len h1
    have hmul : rs.length ≠ 0 → IntKind.i64.wrap ((rs.length : Int) * n) = ((rs.length * n.toNat : Nat) : Int) := fun h0 => by
      have hn := h4 (by omega)
      have hle := Nat.mul_le_mul hl (show n.toNat ≤ 400 by omega)
      rw [Int.natCast_mul, Int.toNat_of_nonneg (by omega)]
      have e : (rs.length : Int) * n = ((rs.length * n.toNat : Nat) : Int) := by rw [Int.natCast_mul, Int.toNat_of_nonneg (by omega)]
      rw [e]
      exact wrap64 (by omega) (by omega)
    cases hs : strOk (holdL n.toNat rs) with
    | true =>
      have hlen := strOk_len hs
      rw [holdL_len] at hlen
      have h5 : IntKind.i64.wrap (rs.length * n) ≤ 400 ∨ rs.length = 0 := by
        by_cases h0 : rs.length = 0
        · exact .inr h0
        · left; rw [hmul h0]; omega
      have := implHoldT_ac rs n hc1 h1 h2 h4 h5
      simpa [holdOut, hb, hs] using this
    | false =>
      have hgt : ¬ rs.length * n.toNat ≤ 400 := fun h => by rw [strOk_hold h1 h] at hs; cases hs
      have h0 : rs.length ≠ 0 := fun h => hgt (by rw [h]; omega)
      refine AC.weak (implHoldB_ac rs n hc1 (by rw [hb3, hmul h0, Bool.false_or, Bool.and_eq_true, decide_eq_true_eq, decide_eq_true_eq]; omega)) fun w S v f h => ?_
      simp only [holdOut, hb, hs, Bool.false_eq_true, if_false, List.map_nil]
      exact weak_nil2 h
def r_implHold (xs0 : List A) (rr : A) : Prop := ∃ (rs : List Int) (n : Int), (rs.length < 17592186044416) ∧ xs0 = [.row false 1 (rs.map iv), .int .i64 n] ∧ rr = .tup [.row true 1 ((holdOut rs n).1.map iv), .bool (holdOut rs n).2]
noncomputable def q_implHold : List A → Option A := kgr r_implHold
theorem k_implHold : KOk Try.prog (56, q_implHold) := kgr_ok (enters_of Try.func56 rfl rfl) (by rintro xs0 rr ⟨rs, n, hc1, rfl, rfl⟩; exact implHold_ac rs n hc1)
theorem e_implHold : ∀ (rs : List Int) (n : Int), (rs.length < 17592186044416) → q_implHold [.row false 1 (rs.map iv), .int .i64 n] = some (.tup [.row true 1 ((holdOut rs n).1.map iv), .bool (holdOut rs n).2]) := by
  intro rs n hc1
  refine kgr_eq (fun xs0 rr r2 h h2 => ?_) ⟨rs, n, hc1, rfl, rfl⟩
  obtain ⟨rs1, n1, _, e1, rfl⟩ := h; obtain ⟨rs2, n2, _, e2, rfl⟩ := h2
  rw [e1] at e2
  simp only [List.cons.injEq, A.int.injEq, A.bool.injEq, A.agg.injEq, A.row.injEq, A.fn.injEq, A.rp.injEq, insv_inj, iv_inj, true_and, and_true] at e2
  simp [e2]
end Go.Proofs.Ytimgfinlbhodhaa.Ab
