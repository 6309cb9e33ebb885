/- Walks of functions of the program: what each answers, for all arguments that meet its conditions. -/
import Derived.Test.YtmijpnghcggdfaaAbP13
namespace Go.Proofs.Ytmijpnghcggdfaa.Ab
open Go
set_option linter.unusedVariables false
set_option linter.unusedSimpArgs false
set_option maxHeartbeats 4000000

theorem ok_repeatInt : Kn.ok Try.prog (kof [(94, q_bitsMul)]) := kof_cons k_bitsMul ((kof_nil _))
def repI (x : Int) (N p : Nat) : List (List A) := List.replicate p [.int .i64 x] ++ List.replicate (N - p) [.int .i64 0]
theorem copyable_one (x : Int) : [[A.int .i64 x]].all (fun y => y.all copyable) = true := rfl
theorem repI_len (x : Int) {N p : Nat} (h : p ≤ N) : (repI x N p).length = N := by simp [repI]; omega
theorem repI_full (x : Int) (N : Nat) : repI x N N = (List.replicate N x).map iv := by simp [repI, iv]
theorem repI_take (x : Int) (N p : Nat) : (repI x N p).take p = List.replicate p [.int .i64 x] := by
  unfold repI
  rw [List.take_append_of_le_length (by simp)]
  simp
theorem repI_zero (x : Int) (N : Nat) : cpy (List.replicate N [A.int .i64 0]) 0 (min 1 N) [[.int .i64 x]] = repI x N (min 1 N) := by
  unfold cpy repI
  simp only [List.take_zero, List.nil_append, List.drop_replicate, Nat.zero_add]
  cases N with
  | zero => rfl
  | succ N =>
    have : min 1 (N + 1) = 1 := by omega
    rw [this]; rfl
theorem repI_step (x : Int) {N p : Nat} (h : p ≤ N) : cpy (repI x N p) p (min p (N - p)) (List.replicate p [.int .i64 x]) = repI x N (p + min p (N - p)) := by
  unfold cpy repI
  rw [List.take_append_of_le_length (by simp), List.drop_append]
  simp only [List.take_replicate, List.drop_replicate, List.length_replicate, Nat.min_self]
  rw [show p - (p + min p (N - p)) = 0 by omega, show p + min p (N - p) - p = min p (N - p) by omega, List.replicate_zero, List.nil_append, ← List.append_assoc, List.replicate_append_replicate]
  rw [show min (min p (N - p)) p = min p (N - p) by omega, show N - p - min p (N - p) = N - (p + min p (N - p)) by omega]
theorem copyable_rep (x : Int) (p : Nat) : (List.replicate p [A.int .i64 x]).all (fun y => y.all copyable) = true := by
  rw [List.all_eq_true]; intro y hy; rw [(List.mem_replicate.1 hy).2]; rfl
theorem repI_pure (x : Int) (N p : Nat) : pureLL (repI x N p) = true := by
  unfold repI
  rw [pureLL_app, pureLL_rep, pureLL_rep]
  simp [pureL, pureA]
theorem repeatInt_ac (x : Int) (n : Int) (hc1 : 0 ≤ n) (hc2 : n ≤ 400) : AC Try.prog 57 [.row false 1 [[.int .i64 x]], .int .i64 n] (.row true 1 ((List.replicate n.toNat x).map iv)) := by
  have e_bitsMul := e_bitsMul
  have hwn : IntKind.u64.wrap n = n := by simp [IntKind.wrap, IntKind.bits, IntKind.signed]; omega
  have hw1 : IntKind.u64.wrap 1 = 1 := by decide
  have hwi : IntKind.i64.wrap n = n := wrap64 (by omega) (by omega)
  have hlt : ¬ n < 0 := by omega
  have hgt : ¬ n > 9223372036854775807 := by omega
  have hb1 : n ≤ 4611686018427387904 := by omega
  have hb2 : 8 * n ≤ 140737488355328 := by omega
  have hc3 := copyable_one x
  refine AC.of tab_ok Try.func57 rfl (Nat.le_of_ble_eq_true rfl) fun w0 S0 => ?_
  change G _ _ ⟨[(0, .row false 1 [[.int .i64 x]]), (1, .int .i64 n)], [], 48⟩
  apply G.seq
  refine G.rg tab_ok ok_repeatInt (hk := ?_)
  apply G.seq
  apply G.seq
  refine G.rg tab_ok ok_repeatInt (hk := ?_)
  refine G.iffF (h2 := ?_)
  apply G.skip
  apply G.seq
  refine G.rg tab_ok ok_repeatInt (hk := ?_)
  apply G.seq
  apply G.seq
  refine G.rg tab_ok ok_repeatInt (hk := ?_)
  refine G.fg [0, 6, 26, 38, 39, 40, 41, 42, 43, 44, 45, 46] (hk := ?_)
  refine G.iffF (h2 := ?_)
  apply G.skip
  apply G.seq
  refine G.rg tab_ok ok_repeatInt (hk := ?_)
  apply G.seq
  refine G.rg tab_ok ok_repeatInt (hk := ?_)
  apply G.seq
  apply G.block
  have hcp : pureLL (cpy (List.replicate n.toNat [A.int .i64 0]) 0 (min 1 n.toNat) [[.int .i64 x]]) = true := by rw [repI_zero]; exact repI_pure ..
  refine G.cn [7, 8] [0] (h := ?_)
  refine G.loopX (fun p : Nat => ⟨[(7, .sl 0 0 n.toNat), (8, .int .i64 p)], [some (1, repI x n.toNat p)], 48⟩) (fun p => p ≤ n.toNat ∧ min 1 n.toNat ≤ p) (fun p => n.toNat - p) (min 1 n.toNat) (⟨by omega, by omega⟩) (by simp only [List.length_cons, List.length_nil, Nat.zero_add, ← repI_zero]) ?_
  intro p hp J hJ
  obtain ⟨hp, hp1⟩ := hp
  have hlen := repI_len x hp
  have htk := repI_take x n.toNat p
  have hcr := copyable_rep x p
  have hle : p + (n.toNat - p) ≤ n.toNat := by omega
  have hw : IntKind.i64.wrap ((p : Int) + ((min p (n.toNat - p) : Nat) : Int)) = (p : Int) + ((min p (n.toNat - p) : Nat) : Int) := wrap64 (by omega) (by omega)
  have hs := repI_step x hp
  apply G.seq
  apply G.seq
  refine G.rg tab_ok ok_repeatInt (hk := ?_)
  refine G.iff (h1 := fun h3 => ?_) (h2 := fun h3 => ?_)
  · try simp only [decide_eq_true_eq, decide_eq_false_iff_not, Bool.and_eq_true, Bool.and_eq_false_imp, Bool.or_eq_true, Bool.or_eq_false_iff, Bool.not_eq_true', Bool.not_eq_false', bne_iff_ne, beq_iff_eq, bne_eq_false_iff_eq, beq_eq_false_iff_ne, ne_eq, Int.ofNat_lt, Int.not_lt, Int.not_le, Int.ofNat_le, Nat.not_lt, Nat.not_le, gt_iff_lt, ge_iff_le] at h3
    apply G.skip
    apply G.block
    refine G.dr mixed tab_ok ok_repeatInt [0, 1, 2, 3, 4, 5, 6, 7, 8, 9] (hk := ?_)
    apply G.blk
    have hpu := repI_pure x n.toNat (p + min p (n.toNat - p))
    refine G.cn [7, 8] [0] (h := ?_)
    exact G.upto (hJ (p + min p (n.toNat - p)) ⟨by omega, by omega⟩ (by omega)) (by simp)
  · try simp only [decide_eq_true_eq, decide_eq_false_iff_not, Bool.and_eq_true, Bool.and_eq_false_imp, Bool.or_eq_true, Bool.or_eq_false_iff, Bool.not_eq_true', Bool.not_eq_false', bne_iff_ne, beq_iff_eq, bne_eq_false_iff_eq, beq_eq_false_iff_ne, ne_eq, Int.ofNat_lt, Int.not_lt, Int.not_le, Int.ofNat_le, Nat.not_lt, Nat.not_le, gt_iff_lt, ge_iff_le] at h3
    refine G.exit rfl ?_
    apply G.seq
    refine G.rg tab_ok ok_repeatInt (hk := ?_)
    obtain rfl : p = n.toNat := by omega
    have hpu := repI_pure x n.toNat n.toNat
    have hfull := repI_full x n.toNat
    refine G.fin tab_ok (hr := ?_)
    rw [List.take_of_length_le (by simp)]; rfl
def r_repeatInt (xs0 : List A) (rr : A) : Prop := ∃ (x : Int) (n : Int), (0 ≤ n) ∧ (n ≤ 400) ∧ xs0 = [.row false 1 [[.int .i64 x]], .int .i64 n] ∧ rr = .row true 1 ((List.replicate n.toNat x).map iv)
noncomputable def q_repeatInt : List A → Option A := kgr r_repeatInt
theorem k_repeatInt : KOk Try.prog (57, q_repeatInt) := kgr_ok (enters_of Try.func57 rfl rfl) (by rintro xs0 rr ⟨x, n, hc1, hc2, rfl, rfl⟩; exact repeatInt_ac x n hc1 hc2)
theorem e_repeatInt : ∀ (x : Int) (n : Int), (0 ≤ n) → (n ≤ 400) → q_repeatInt [.row false 1 [[.int .i64 x]], .int .i64 n] = some (.row true 1 ((List.replicate n.toNat x).map iv)) := by
  intro x n hc1 hc2
  refine kgr_eq (fun xs0 rr r2 h h2 => ?_) ⟨x, n, hc1, hc2, rfl, rfl⟩
  obtain ⟨x1, n1, _, _, e1, rfl⟩ := h; obtain ⟨x2, n2, _, _, e2, rfl⟩ := h2
  rw [e1] at e2
  simp only [List.cons.injEq, A.int.injEq, A.bool.injEq, A.agg.injEq, A.row.injEq, A.fn.injEq, A.rp.injEq, insv_inj, iv_inj, true_and, and_true] at e2
  simp [e2]

end Go.Proofs.Ytmijpnghcggdfaa.Ab
