/- Walks of functions of the program: what each answers, for all arguments that meet its conditions. -/
import Derived.Test.YticgaflgbljhlaaAbP7
namespace Go.Proofs.Yticgaflgbljhlaa.Ab
open Go
set_option linter.unusedVariables false
set_option linter.unusedSimpArgs false
set_option maxHeartbeats 4000000

def eltP (n : Int) (k : Nat) : I4 := (n + 4 * (k : Int), n + 4 * (k : Int) + 1, n + 4 * (k : Int) + 1 + 1, n + 4 * (k : Int) + 1 + 1 + 1)
def heldP (n : Int) (l : List I4) : Int := if l = mkP n l.length then n + 4 * l.length else -1
theorem mkP_get {n : Int} {k j : Nat} (h : j < k) : (mkP n k).getD j default = eltP n j := by simp [mkP, eltP, h]
theorem heldP_no {n : Int} {l : List I4} {j : Nat} (hj : j < l.length) (h : l.getD j default ≠ eltP n j) : heldP n l = -1 := by
  unfold heldP
  rw [if_neg]
  intro e
  apply h
  have := mkP_get (n := n) hj
  rw [← e] at this
  exact this
theorem heldP_yes {n : Int} {l : List I4} (h : ∀ j < l.length, l.getD j default = eltP n j) : heldP n l = n + 4 * l.length := by
  unfold heldP
  rw [if_pos]
  apply List.ext_getElem (by rw [mkP_len])
  intro j h1 h2
  have := h j h1
  have e := mkP_get (n := n) h1
  simp only [List.getD_eq_getElem?_getD, List.getElem?_eq_getElem h1, List.getElem?_eq_getElem h2, Option.getD_some] at this e
  rw [this, e]
theorem heldP_mk (n : Int) (k : Nat) : heldP n (mkP n k) = n + 4 * k := by unfold heldP; rw [mkP_len, if_pos rfl]
theorem heldP_upto {l : List I4} {n : Int} {i : Nat} (h : ∀ j < i, l.getD j default = eltP n j) (h2 : l.getD i default = eltP n i) : ∀ j < i + 1, l.getD j default = eltP n j := by
  intro j hj
  by_cases e : j = i
  · rw [e]; exact h2
  · exact h j (by omega)
theorem heldInstrS_ac (l : List I4) (n : Int) (hc1 : 0 ≤ n) (hc2 : n ≤ 1099511627776) (hc3 : l.length < 1099511627776) : AC Try.prog 150 [.row false 4 (l.map insv), .int .i64 n] (.int .i64 (heldP n l)) := by
  refine AC.of tab_ok Try.func150 rfl (Nat.le_of_ble_eq_true rfl) fun w0 S0 => ?_
  change G _ _ ⟨[(0, .row false 4 (l.map insv)), (1, .int .i64 n)], [], 49⟩
  apply G.seq
  refine G.rg tab_ok (kof_nil _) (hk := ?_)
  apply G.seq
  apply G.seq
  refine G.rg tab_ok (kof_nil _) (hk := ?_)
  apply G.block
  refine G.cn [0, 1, 5] [] (h := ?_)
  refine G.loopX (fun j : Nat => ⟨[(0, .row false 4 (l.map insv)), (1, .int .i64 (n + 4 * j)), (5, .int .i64 j)], [], 49⟩) (fun j => j ≤ l.length ∧ ∀ k < j, l.getD k default = eltP n k) (fun j => l.length - j) (0) (⟨Nat.zero_le _, by omega⟩) (by simp) ?_
  intro j hj J hJ
  obtain ⟨hj, hall⟩ := hj
  have hw : IntKind.i64.wrap ((j : Int) + 1) = (j : Int) + 1 := wrap64 (by omega) (by omega)
  have hw1 : IntKind.i64.wrap (n + 4 * (j : Int) + 1) = n + 4 * (j : Int) + 1 := wrap64 (by omega) (by omega)
  have hw2 : IntKind.i64.wrap (n + 4 * (j : Int) + 1 + 1) = n + 4 * (j : Int) + 1 + 1 := wrap64 (by omega) (by omega)
  have hw3 : IntKind.i64.wrap (n + 4 * (j : Int) + 1 + 1 + 1) = n + 4 * (j : Int) + 1 + 1 + 1 := wrap64 (by omega) (by omega)
  have hw4 : IntKind.i64.wrap (n + 4 * (j : Int) + 1 + 1 + 1 + 1) = n + 4 * (j : Int) + 1 + 1 + 1 + 1 := wrap64 (by omega) (by omega)
  apply G.seq
  apply G.seq
  refine G.rg tab_ok (kof_nil _) (hk := ?_)
  refine G.iff (h1 := fun h1 => ?_) (h2 := fun h1 => ?_)
  · try simp only [decide_eq_true_eq, decide_eq_false_iff_not, Bool.and_eq_true, Bool.and_eq_false_imp, Bool.or_eq_true, Bool.or_eq_false_iff, Bool.not_eq_true', Bool.not_eq_false', bne_iff_ne, beq_iff_eq, bne_eq_false_iff_eq, beq_eq_false_iff_ne, ne_eq, Int.ofNat_lt, Int.not_lt, Int.not_le, Int.ofNat_le, Nat.not_lt, Nat.not_le, gt_iff_lt, ge_iff_le] at h1
    apply G.skip
    apply G.seq
    apply G.block
    apply G.seq
    apply G.seq
    refine G.rg tab_ok (kof_nil _) (hk := ?_)
    refine G.fg [0, 1, 5, 18] (hk := ?_)
    refine G.iff (h1 := fun h2 => ?_) (h2 := fun h2 => ?_)
    · try simp only [decide_eq_true_eq, decide_eq_false_iff_not, Bool.and_eq_true, Bool.and_eq_false_imp, Bool.or_eq_true, Bool.or_eq_false_iff, Bool.not_eq_true', Bool.not_eq_false', bne_iff_ne, beq_iff_eq, bne_eq_false_iff_eq, beq_eq_false_iff_ne, ne_eq, Int.ofNat_lt, Int.not_lt, Int.not_le, Int.ofNat_le, Nat.not_lt, Nat.not_le, gt_iff_lt, ge_iff_le] at h2
      apply G.seq
      refine G.rg tab_ok (kof_nil _) (hk := ?_)
      refine G.fin tab_ok (hr := ?_)
      simp only [oneOrTup]
      congr 1
      exact (heldP_no h1 (fun e => h2 (by rw [e]; rfl))).symm
    · try simp only [decide_eq_true_eq, decide_eq_false_iff_not, Bool.and_eq_true, Bool.and_eq_false_imp, Bool.or_eq_true, Bool.or_eq_false_iff, Bool.not_eq_true', Bool.not_eq_false', bne_iff_ne, beq_iff_eq, bne_eq_false_iff_eq, beq_eq_false_iff_ne, ne_eq, Int.ofNat_lt, Int.not_lt, Int.not_le, Int.ofNat_le, Nat.not_lt, Nat.not_le, gt_iff_lt, ge_iff_le] at h2
      apply G.skip
      apply G.seq
      refine G.rg tab_ok (kof_nil _) (hk := ?_)
      apply G.seq
      apply G.seq
      refine G.rg tab_ok (kof_nil _) (hk := ?_)
      refine G.fg [0, 1, 5, 27] (hk := ?_)
      refine G.iff (h1 := fun h3 => ?_) (h2 := fun h3 => ?_)
      · try simp only [decide_eq_true_eq, decide_eq_false_iff_not, Bool.and_eq_true, Bool.and_eq_false_imp, Bool.or_eq_true, Bool.or_eq_false_iff, Bool.not_eq_true', Bool.not_eq_false', bne_iff_ne, beq_iff_eq, bne_eq_false_iff_eq, beq_eq_false_iff_ne, ne_eq, Int.ofNat_lt, Int.not_lt, Int.not_le, Int.ofNat_le, Nat.not_lt, Nat.not_le, gt_iff_lt, ge_iff_le] at h3
        apply G.seq
        refine G.rg tab_ok (kof_nil _) (hk := ?_)
        refine G.fin tab_ok (hr := ?_)
        simp only [oneOrTup]
        congr 1
        exact (heldP_no h1 (fun e => h3 (by rw [e]; rfl))).symm
      · try simp only [decide_eq_true_eq, decide_eq_false_iff_not, Bool.and_eq_true, Bool.and_eq_false_imp, Bool.or_eq_true, Bool.or_eq_false_iff, Bool.not_eq_true', Bool.not_eq_false', bne_iff_ne, beq_iff_eq, bne_eq_false_iff_eq, beq_eq_false_iff_ne, ne_eq, Int.ofNat_lt, Int.not_lt, Int.not_le, Int.ofNat_le, Nat.not_lt, Nat.not_le, gt_iff_lt, ge_iff_le] at h3
        apply G.skip
        apply G.seq
        refine G.rg tab_ok (kof_nil _) (hk := ?_)
        apply G.seq
        apply G.seq
        refine G.rg tab_ok (kof_nil _) (hk := ?_)
        refine G.fg [0, 1, 5, 36] (hk := ?_)
        refine G.iff (h1 := fun h4 => ?_) (h2 := fun h4 => ?_)
        · try simp only [decide_eq_true_eq, decide_eq_false_iff_not, Bool.and_eq_true, Bool.and_eq_false_imp, Bool.or_eq_true, Bool.or_eq_false_iff, Bool.not_eq_true', Bool.not_eq_false', bne_iff_ne, beq_iff_eq, bne_eq_false_iff_eq, beq_eq_false_iff_ne, ne_eq, Int.ofNat_lt, Int.not_lt, Int.not_le, Int.ofNat_le, Nat.not_lt, Nat.not_le, gt_iff_lt, ge_iff_le] at h4
          apply G.seq
          refine G.rg tab_ok (kof_nil _) (hk := ?_)
          refine G.fin tab_ok (hr := ?_)
          simp only [oneOrTup]
          congr 1
          exact (heldP_no h1 (fun e => h4 (by rw [e]; rfl))).symm
        · try simp only [decide_eq_true_eq, decide_eq_false_iff_not, Bool.and_eq_true, Bool.and_eq_false_imp, Bool.or_eq_true, Bool.or_eq_false_iff, Bool.not_eq_true', Bool.not_eq_false', bne_iff_ne, beq_iff_eq, bne_eq_false_iff_eq, beq_eq_false_iff_ne, ne_eq, Int.ofNat_lt, Int.not_lt, Int.not_le, Int.ofNat_le, Nat.not_lt, Nat.not_le, gt_iff_lt, ge_iff_le] at h4
          apply G.skip
          apply G.seq
          refine G.rg tab_ok (kof_nil _) (hk := ?_)
          apply G.seq
          apply G.seq
          refine G.rg tab_ok (kof_nil _) (hk := ?_)
          refine G.fg [0, 1, 5, 45] (hk := ?_)
          refine G.iff (h1 := fun h5 => ?_) (h2 := fun h5 => ?_)
          · try simp only [decide_eq_true_eq, decide_eq_false_iff_not, Bool.and_eq_true, Bool.and_eq_false_imp, Bool.or_eq_true, Bool.or_eq_false_iff, Bool.not_eq_true', Bool.not_eq_false', bne_iff_ne, beq_iff_eq, bne_eq_false_iff_eq, beq_eq_false_iff_ne, ne_eq, Int.ofNat_lt, Int.not_lt, Int.not_le, Int.ofNat_le, Nat.not_lt, Nat.not_le, gt_iff_lt, ge_iff_le] at h5
            apply G.seq
            refine G.rg tab_ok (kof_nil _) (hk := ?_)
            refine G.fin tab_ok (hr := ?_)
            simp only [oneOrTup]
            congr 1
            exact (heldP_no h1 (fun e => h5 (by rw [e]; rfl))).symm
          · try simp only [decide_eq_true_eq, decide_eq_false_iff_not, Bool.and_eq_true, Bool.and_eq_false_imp, Bool.or_eq_true, Bool.or_eq_false_iff, Bool.not_eq_true', Bool.not_eq_false', bne_iff_ne, beq_iff_eq, bne_eq_false_iff_eq, beq_eq_false_iff_ne, ne_eq, Int.ofNat_lt, Int.not_lt, Int.not_le, Int.ofNat_le, Nat.not_lt, Nat.not_le, gt_iff_lt, ge_iff_le] at h5
            apply G.skip
            refine G.rg tab_ok (kof_nil _) (hk := ?_)
            apply G.blk
            refine G.rg tab_ok (kof_nil _) (hk := ?_)
            refine G.cn [0, 1, 5] [] (h := ?_)
            have e4 : n + 4 * (j : Int) + 1 + 1 + 1 + 1 = n + 4 * ((j + 1 : Nat) : Int) := by omega
            exact G.upto (hJ (j + 1) ⟨by omega, heldP_upto hall (Prod.ext h2 (Prod.ext h3 (Prod.ext h4 h5)))⟩ (by omega)) (by rw [e4]; simp)
  · try simp only [decide_eq_true_eq, decide_eq_false_iff_not, Bool.and_eq_true, Bool.and_eq_false_imp, Bool.or_eq_true, Bool.or_eq_false_iff, Bool.not_eq_true', Bool.not_eq_false', bne_iff_ne, beq_iff_eq, bne_eq_false_iff_eq, beq_eq_false_iff_ne, ne_eq, Int.ofNat_lt, Int.not_lt, Int.not_le, Int.ofNat_le, Nat.not_lt, Nat.not_le, gt_iff_lt, ge_iff_le] at h1
    refine G.exit rfl ?_
    apply G.seq
    refine G.rg tab_ok (kof_nil _) (hk := ?_)
    obtain rfl : j = l.length := by omega
    refine G.fin tab_ok (hr := ?_)
    simp only [oneOrTup]
    congr 1
    exact (heldP_yes hall).symm
def r_heldInstrS (xs0 : List A) (rr : A) : Prop := ∃ (l : List I4) (n : Int), (0 ≤ n) ∧ (n ≤ 1099511627776) ∧ (l.length < 1099511627776) ∧ xs0 = [.row false 4 (l.map insv), .int .i64 n] ∧ rr = .int .i64 (heldP n l)
noncomputable def q_heldInstrS : List A → Option A := kgr r_heldInstrS
theorem k_heldInstrS : KOk Try.prog (150, q_heldInstrS) := kgr_ok (enters_of Try.func150 rfl rfl) (by rintro xs0 rr ⟨l, n, hc1, hc2, hc3, rfl, rfl⟩; exact heldInstrS_ac l n hc1 hc2 hc3)
theorem e_heldInstrS : ∀ (l : List I4) (n : Int), (0 ≤ n) → (n ≤ 1099511627776) → (l.length < 1099511627776) → q_heldInstrS [.row false 4 (l.map insv), .int .i64 n] = some (.int .i64 (heldP n l)) := by
  intro l n hc1 hc2 hc3
  refine kgr_eq (fun xs0 rr r2 h h2 => ?_) ⟨l, n, hc1, hc2, hc3, rfl, rfl⟩
  obtain ⟨l1, n1, _, _, _, e1, rfl⟩ := h; obtain ⟨l2, n2, _, _, _, e2, rfl⟩ := h2
  rw [e1] at e2
  simp only [List.cons.injEq, A.int.injEq, A.bool.injEq, A.agg.injEq, A.row.injEq, A.fn.injEq, A.rp.injEq, insv_inj, iv_inj, true_and, and_true] at e2
  simp [e2]

-- not in this seat: heldProgram


end Go.Proofs.Yticgaflgbljhlaa.Ab
