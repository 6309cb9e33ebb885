/- Walks of functions of the program: what each answers, for all arguments that meet its conditions. -/
import Derived.Test.YtimgfinlbhodhaaAbY1
namespace Go.Proofs.Ytimgfinlbhodhaa.Ab
open Go
set_option linter.unusedVariables false
set_option linter.unusedSimpArgs false
set_option maxHeartbeats 4000000
theorem ok_insSort : Kn.ok Try.prog (kof [(200, q_lessI)]) := kof_cons k_lessI ((kof_nil _))
theorem insSort_mc (h : Heap) (l : List Int) (n : Nat) (hc1 : h = [some (1, l.map iv)]) (hc2 : n ≤ 12) (hc3 : n ≤ l.length) (hc4 : l.length ≤ n) : MC Try.prog 194 h [.sl 0 0 n, .int .i64 0, .int .i64 (n : Int)] (.tup []) ([some (1, (sortI l).map iv)]) := by
  have e_lessI := e_lessI
  subst hc1
  have hz1 : IntKind.i64.wrap (0 + 1) = 1 := wrap64 (by omega) (by omega)
  have hz2 : (0 : Int) + 1 = 1 := rfl
  have hft : (false == true) = false := rfl
  have htf : (true == false) = false := rfl
  refine MC.of tab_ok Try.func194 rfl (Nat.le_of_ble_eq_true rfl) fun w0 S0 fs0 φ0 hφ0 hq0 => ?_
  change G _ _ ⟨[(0, .sl 0 0 n), (1, .int .i64 0), (2, .int .i64 (n : Int))], _, 49⟩
  apply G.seq
  refine G.rg tab_ok ok_insSort (hk := ?_)
  apply G.block
  refine G.fg [0, 1, 2, 6] (hk := ?_)
  refine G.loopX (fun x : List Int × Nat => ⟨[(0, .sl 0 0 n), (1, .int .i64 0), (2, .int .i64 (n : Int)), (6, .int .i64 (x.2 : Nat))], [some (1, x.1.map iv)], 49⟩) (fun x => SrtI l x.1 x.2 ∧ 1 ≤ x.2 ∧ x.2 ≤ n + 1) (fun x => n + 1 - x.2) ((l, 1)) (⟨srt_zero l, Nat.le_refl _, by simp only; omega⟩) (rfl) ?_
  intro x hx J2 hJ2
  obtain ⟨r, i⟩ := x
  simp only at hx ⊢
  obtain ⟨hs, hi1, hi2⟩ := hx
  have hrl := hs.1.length_eq
  have hrn1 : r.length ≤ n := by omega
  have hrn2 : n ≤ r.length := by omega
  clear hrl
  have hwi : IntKind.i64.wrap ((i : Int) + 1) = ((i + 1 : Nat) : Int) := by rw [wrap64 (by omega) (by omega)]; omega
  apply G.seq
  apply G.seq
  refine G.rg tab_ok ok_insSort (hk := ?_)
  refine G.iff (h1 := fun h1 => ?_) (h2 := fun h1 => ?_)
  · try simp only [decide_eq_true_eq, decide_eq_false_iff_not, Bool.and_eq_true, Bool.and_eq_false_imp, Bool.or_eq_true, Bool.or_eq_false_iff, Bool.not_eq_true', Bool.not_eq_false', bne_iff_ne, beq_iff_eq, bne_eq_false_iff_eq, beq_eq_false_iff_ne, ne_eq, Int.ofNat_lt, Int.not_lt, Int.not_le, Int.ofNat_le, Nat.not_lt, Nat.not_le, gt_iff_lt, ge_iff_le] at h1
    apply G.skip
    apply G.seq
    apply G.block
    apply G.seq
    refine G.rg tab_ok ok_insSort (hk := ?_)
    apply G.block
    have hin : i < n := by omega
    refine G.fg [0, 1, 2, 6, 7] (hk := ?_)
    refine G.loopX (fun y : List Int × Nat => ⟨[(0, .sl 0 0 n), (1, .int .i64 0), (2, .int .i64 (n : Int)), (6, .int .i64 (i : Nat)), (7, .int .i64 (y.2 : Nat))], [some (1, y.1.map iv)], 49⟩) (fun y => SrtW l y.1 i y.2 ∧ y.2 ≤ i) (fun y => y.2) ((r, i)) (⟨srt_begin hs, Nat.le_refl _⟩) (rfl) ?_
    intro y hy J hJ
    obtain ⟨r2, j⟩ := y
    simp only at hy ⊢
    obtain ⟨hw, hji⟩ := hy
    have hrl := hw.pm.length_eq
    have hrn3 : r2.length ≤ n := by omega
    have hrn4 : n ≤ r2.length := by omega
    clear hrl
    rcases (show j = 0 ∨ ∃ q, j = q + 1 by cases j with | zero => exact .inl rfl | succ q => exact .inr ⟨q, rfl⟩) with c0 | ⟨q, c0⟩
    · skip
      subst c0
      have hz0 : ¬ (((0 : Nat) : Int) > 0) := by omega
      have hsrt : SrtI l r2 (i + 1) := srt_stop hw (.inl rfl)
      apply G.seq
      apply G.seq
      refine G.dr mixed tab_ok ok_insSort [0, 1, 2, 3, 4, 5, 6, 7, 8, 9, 10, 11, 12, 13, 14] (hk := ?_)
      refine G.iffF (h2 := ?_)
      refine G.exit rfl ?_
      apply G.blk
      first
      | (have hy2 := hsrt)
      | (have hsrt : SrtI l r2 (i + 1) := srt_stop hw (.inr ⟨q, rfl, by have hh := h1; omega⟩))
      refine G.rg tab_ok ok_insSort (hk := ?_)
      refine G.fg [0, 1, 2, 6] (hk := ?_)
      exact G.upto (hJ2 (r2, i + 1) ⟨hsrt, by simp only; omega, by simp only; omega⟩ (by simp only; omega)) (by simp)
    · skip
      subst c0
      have hq1 : q < r2.length := by omega
      have hq2 : q + 1 < r2.length := by omega
      have hq3 : ((q + 1 : Nat) : Int) < (n : Int) := by omega
      have hq4 : (q : Int) < (n : Int) := by omega
      have hq5 : ((q + 1 : Nat) : Int) > 0 := by omega
      have hwq : IntKind.i64.wrap (((q + 1 : Nat) : Int) - 1) = (q : Int) := by rw [wrap64 (by omega) (by omega)]; omega
      apply G.seq
      apply G.seq
      refine G.dr mixed tab_ok ok_insSort [0, 1, 2, 3, 4, 5, 6, 7, 8, 9, 10, 11, 12, 13, 14] (hk := ?_)
      refine G.fg [0, 1, 2, 6, 7, 30, 33, 34, 35, 36, 37, 38, 39, 40, 41, 42, 43, 44, 45, 46, 47, 48] (hk := ?_)
      refine G.iff (h1 := fun h3 => ?_) (h2 := fun h3 => ?_)
      · try simp only [decide_eq_true_eq, decide_eq_false_iff_not, Bool.and_eq_true, Bool.and_eq_false_imp, Bool.or_eq_true, Bool.or_eq_false_iff, Bool.not_eq_true', Bool.not_eq_false', bne_iff_ne, beq_iff_eq, bne_eq_false_iff_eq, beq_eq_false_iff_ne, ne_eq, Int.ofNat_lt, Int.not_lt, Int.not_le, Int.ofNat_le, Nat.not_lt, Nat.not_le, gt_iff_lt, ge_iff_le] at h3
        apply G.skip
        apply G.seq
        apply G.block
        have hg1 : (List.map iv r2)[q + 1]? = some [.int .i64 (r2.getD (q + 1) default)] := by rw [List.getElem?_map, getD_some hq2]; rfl
        have hg2 : ∀ a, ((List.map iv r2).set (q + 1) a)[q]? = some [.int .i64 (r2.getD q default)] := fun a => by rw [List.getElem?_set_ne (by omega), List.getElem?_map, getD_some hq1]; rfl
        have hsw : ((List.map iv r2).set (q + 1) [.int .i64 (r2.getD q default)]).set q [.int .i64 (r2.getD (q + 1) default)] = List.map iv ((r2.set (q + 1) (r2.getD q default)).set q (r2.getD (q + 1) default)) := by rw [List.map_set, List.map_set]; rfl
        refine G.dr mixed tab_ok ok_insSort [0, 1, 2, 3, 4, 5, 6, 7, 8, 9, 10, 11, 12, 13, 14, 15, 16, 17] (hk := ?_)
        apply G.blk
        refine G.rg tab_ok ok_insSort (hk := ?_)
        refine G.fg [0, 1, 2, 6, 7] (hk := ?_)
        exact G.upto (hJ ((r2.set (q + 1) (r2.getD q default)).set q (r2.getD (q + 1) default), q) ⟨srt_swap hw (by omega) (by omega) h3, by simp only; omega⟩ (by simp only; omega)) (by simp)
      · try simp only [decide_eq_true_eq, decide_eq_false_iff_not, Bool.and_eq_true, Bool.and_eq_false_imp, Bool.or_eq_true, Bool.or_eq_false_iff, Bool.not_eq_true', Bool.not_eq_false', bne_iff_ne, beq_iff_eq, bne_eq_false_iff_eq, beq_eq_false_iff_ne, ne_eq, Int.ofNat_lt, Int.not_lt, Int.not_le, Int.ofNat_le, Nat.not_lt, Nat.not_le, gt_iff_lt, ge_iff_le] at h3
        refine G.exit rfl ?_
        apply G.blk
        first
        | (have hy2 := hsrt)
        | (have hsrt : SrtI l r2 (i + 1) := srt_stop hw (.inr ⟨q, rfl, by have hh := h3; omega⟩))
        refine G.rg tab_ok ok_insSort (hk := ?_)
        refine G.fg [0, 1, 2, 6] (hk := ?_)
        exact G.upto (hJ2 (r2, i + 1) ⟨hsrt, by simp only; omega, by simp only; omega⟩ (by simp only; omega)) (by simp)
  · try simp only [decide_eq_true_eq, decide_eq_false_iff_not, Bool.and_eq_true, Bool.and_eq_false_imp, Bool.or_eq_true, Bool.or_eq_false_iff, Bool.not_eq_true', Bool.not_eq_false', bne_iff_ne, beq_iff_eq, bne_eq_false_iff_eq, beq_eq_false_iff_ne, ne_eq, Int.ofNat_lt, Int.not_lt, Int.not_le, Int.ofNat_le, Nat.not_lt, Nat.not_le, gt_iff_lt, ge_iff_le] at h1
    refine G.exit rfl ?_
    refine G.doneN (junk := []) (xs := []) tab_ok rfl rfl ?_ ?_ ?_ ?_ ?_
    · rfl
    · rw [srt_end hs (by omega)]
      rfl
    · rfl
    · show (refLL _ _ && true) = true
      rw [pureLL_ref (pureLL_iv _)]
      rfl
    · rw [hφ0]; exact Nat.le_refl _
end Go.Proofs.Ytimgfinlbhodhaa.Ab
