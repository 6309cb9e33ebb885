/- Walks of functions of the program: what each answers, for all arguments that meet its conditions. -/
import Derived.Test.YticgaflgbljhlaaAbP5
import Derived.Test.YticgaflgbljhlaaAbAuto2
namespace Go.Proofs.Yticgaflgbljhlaa.Ab
open Go
set_option linter.unusedVariables false
set_option linter.unusedSimpArgs false
set_option maxHeartbeats 4000000

theorem set_self {h : Heap} {m : Nat} {x : Option Blk} (hm : h[m]? = some x) (b : Option Blk) : (h.set m b)[m]? = some b := List.getElem?_set_self (List.getElem?_eq_some_iff.1 hm).1
theorem set_same {h : Heap} {m : Nat} {x : Option Blk} (hm : h[m]? = some x) : h.set m x = h := by
  obtain ⟨hl, e⟩ := List.getElem?_eq_some_iff.1 hm
  rw [← e]; exact List.set_getElem_self hl
/-- Marks. -/
def mkI (n : Int) (k : Nat) : List Int := (List.range k).map fun (j : Nat) => n + (j : Int)
/-- Marks so far, and what stood there. -/
def upI (n : Int) (rs : List Int) (j : Nat) : List Int := mkI n j ++ rs.drop j
theorem mkI_len (n : Int) (k : Nat) : (mkI n k).length = k := by simp [mkI]
theorem upI_zero (n : Int) (rs : List Int) : upI n rs 0 = rs := by simp [upI, mkI]
theorem upI_full (n : Int) (rs : List Int) : upI n rs rs.length = mkI n rs.length := by simp [upI]
theorem upI_len (n : Int) {rs : List Int} {j : Nat} (h : j ≤ rs.length) : (upI n rs j).length = rs.length := by simp [upI, mkI_len]; omega
theorem upI_get (n : Int) {rs : List Int} {j : Nat} (h : j < rs.length) : ((upI n rs j).map iv)[j]? = some [.int .i64 (rs.getD j default)] := by
  unfold upI
  rw [List.getElem?_map, List.getElem?_append_right (by rw [mkI_len]; omega), mkI_len]
  simp [iv, h]
theorem upI_set (n : Int) {rs : List Int} {j : Nat} (h : j < rs.length) : ((upI n rs j).map iv).set j [.int .i64 (n + j)] = (upI n rs (j + 1)).map iv := by
  have e : [A.int .i64 (n + (j : Int))] = iv (n + j) := rfl
  rw [e, ← List.map_set]
  congr 1
  unfold upI
  rw [List.set_append_right _ _ (by rw [mkI_len]; omega), mkI_len, Nat.sub_self, List.drop_eq_getElem_cons h, List.set_cons_zero]
  simp [mkI, List.range_succ]
theorem markIntS_mc (h : Heap) (m : Nat) (rs : List Int) (n : Int) (hc1 : h[m]? = some (some (1, rs.map iv))) (hc2 : 0 ≤ n) (hc3 : n ≤ 1099511627776) (hc4 : rs.length < 1099511627776) : MC Try.prog 32 h [.sl m 0 rs.length, .int .i64 n] (.int .i64 (n + rs.length)) (h.set m (some (1, (mkI n rs.length).map iv))) := by
  have hself : ∀ b, (h.set m b)[m]? = some b := set_self hc1
  have hss : ∀ b b2, (h.set m b).set m b2 = h.set m b2 := fun b b2 => List.set_set ..
  have hlen : ∀ b, (h.set m b).length = h.length := fun b => List.length_set
  refine MC.of tab_ok Try.func32 rfl (Nat.le_of_ble_eq_true rfl) fun w0 S0 fs0 φ0 hφ0 hq0 => ?_
  change G _ _ ⟨[(0, .sl m 0 rs.length), (1, .int .i64 n)], _, 19⟩
  apply G.seq
  refine G.rg tab_ok (kof_nil _) (hk := ?_)
  apply G.seq
  apply G.seq
  refine G.rg tab_ok (kof_nil _) (hk := ?_)
  apply G.block
  refine G.fg [0, 1, 5] (hk := ?_)
  refine G.loopX (fun j : Nat => ⟨[(0, .sl m 0 rs.length), (1, .int .i64 (n + j)), (5, .int .i64 j)], h.set m (some (1, (upI n rs j).map iv)), 19⟩) (fun j => j ≤ rs.length) (fun j => rs.length - j) (0) (Nat.zero_le _) (by simp [upI_zero, set_same hc1]) ?_
  intro j hj J hJ
  have hw : IntKind.i64.wrap ((j : Int) + 1) = (j : Int) + 1 := wrap64 (by omega) (by omega)
  have hw2 : IntKind.i64.wrap (n + (j : Int) + 1) = n + (j : Int) + 1 := wrap64 (by omega) (by omega)
  apply G.seq
  apply G.seq
  refine G.rg tab_ok (kof_nil _) (hk := ?_)
  refine G.iff (h1 := fun h1 => ?_) (h2 := fun h1 => ?_)
  · try simp only [decide_eq_true_eq, decide_eq_false_iff_not, Bool.and_eq_true, Bool.and_eq_false_imp, Bool.or_eq_true, Bool.or_eq_false_iff, Bool.not_eq_true', Bool.not_eq_false', bne_iff_ne, beq_iff_eq, bne_eq_false_iff_eq, beq_eq_false_iff_ne, ne_eq, Int.ofNat_lt, Int.not_lt, Int.not_le, Int.ofNat_le, Nat.not_lt, Nat.not_le, gt_iff_lt, ge_iff_le] at h1
    apply G.skip
    apply G.seq
    apply G.block
    apply G.seq
    have hg := upI_get n h1
    have hs := upI_set n h1
    refine G.rg tab_ok (kof_nil _) (hk := ?_)
    refine G.rg tab_ok (kof_nil _) (hk := ?_)
    apply G.blk
    refine G.rg tab_ok (kof_nil _) (hk := ?_)
    refine G.fg [0, 1, 5] (hk := ?_)
    exact G.upto (hJ (j + 1) (by omega) (by omega)) (by simp [Int.add_assoc])
  · try simp only [decide_eq_true_eq, decide_eq_false_iff_not, Bool.and_eq_true, Bool.and_eq_false_imp, Bool.or_eq_true, Bool.or_eq_false_iff, Bool.not_eq_true', Bool.not_eq_false', bne_iff_ne, beq_iff_eq, bne_eq_false_iff_eq, beq_eq_false_iff_ne, ne_eq, Int.ofNat_lt, Int.not_lt, Int.not_le, Int.ofNat_le, Nat.not_lt, Nat.not_le, gt_iff_lt, ge_iff_le] at h1
    refine G.exit rfl ?_
    apply G.seq
    refine G.rg tab_ok (kof_nil _) (hk := ?_)
    obtain rfl : j = rs.length := by omega
    rw [upI_full]
    refine G.finM (junk := []) tab_ok (hr := ?_) (hh := ?_) (hq := ?_) (hl := ?_)
    · rfl
    · simp
    · rw [List.length_set]; exact hrefs_pure hq0 (pureLL_iv _)
    · rw [List.length_set, hφ0]; exact Nat.le_refl _

def mkP (n : Int) (k : Nat) : List I4 := (List.range k).map fun (j : Nat) => (n + 4 * (j : Int), n + 4 * (j : Int) + 1, n + 4 * (j : Int) + 1 + 1, n + 4 * (j : Int) + 1 + 1 + 1)
def upP (n : Int) (l : List I4) (j : Nat) : List I4 := mkP n j ++ l.drop j
theorem mkP_len (n : Int) (k : Nat) : (mkP n k).length = k := by simp [mkP]
theorem upP_zero (n : Int) (l : List I4) : upP n l 0 = l := by simp [upP, mkP]
theorem upP_full (n : Int) (l : List I4) : upP n l l.length = mkP n l.length := by simp [upP]
theorem upP_get (n : Int) {l : List I4} {j : Nat} (h : j < l.length) : ((upP n l j).map insv)[j]? = some [.int .i64 (l.getD j default).1, .int .i64 (l.getD j default).2.1, .int .i64 (l.getD j default).2.2.1, .int .i64 (l.getD j default).2.2.2] := by
  unfold upP
  rw [List.getElem?_map, List.getElem?_append_right (by rw [mkP_len]; omega), mkP_len]
  simp [insv, h]
theorem upP_set (n : Int) {l : List I4} {j : Nat} (h : j < l.length) : ((upP n l j).map insv).set j [.int .i64 (n + 4 * j), .int .i64 (n + 4 * j + 1), .int .i64 (n + 4 * j + 1 + 1), .int .i64 (n + 4 * j + 1 + 1 + 1)] = (upP n l (j + 1)).map insv := by
  have e : [A.int .i64 (n + 4 * (j : Int)), .int .i64 (n + 4 * j + 1), .int .i64 (n + 4 * j + 1 + 1), .int .i64 (n + 4 * j + 1 + 1 + 1)] = insv (n + 4 * (j : Int), n + 4 * (j : Int) + 1, n + 4 * (j : Int) + 1 + 1, n + 4 * (j : Int) + 1 + 1 + 1) := rfl
  rw [e, ← List.map_set]
  congr 1
  unfold upP
  rw [List.set_append_right _ _ (by rw [mkP_len]; omega), mkP_len, Nat.sub_self, List.drop_eq_getElem_cons h, List.set_cons_zero]
  simp [mkP, List.range_succ]
theorem row_self {x : List (List A)} {j : Nat} {e : List A} (h : x[j]? = some e) (e2 : List A) : (x.set j e2)[j]? = some e2 := List.getElem?_set_self (List.getElem?_eq_some_iff.1 h).1
theorem markInstrS_mc (h : Heap) (m : Nat) (l : List I4) (n : Int) (hc1 : h[m]? = some (some (4, l.map insv))) (hc2 : 0 ≤ n) (hc3 : n ≤ 1099511627776) (hc4 : l.length < 1099511627776) : MC Try.prog 148 h [.sl m 0 l.length, .int .i64 n] (.int .i64 (n + 4 * l.length)) (h.set m (some (4, (mkP n l.length).map insv))) := by
  have hself : ∀ b, (h.set m b)[m]? = some b := set_self hc1
  have hss : ∀ b b2, (h.set m b).set m b2 = h.set m b2 := fun b b2 => List.set_set ..
  have hlen : ∀ b, (h.set m b).length = h.length := fun b => List.length_set
  refine MC.of tab_ok Try.func148 rfl (Nat.le_of_ble_eq_true rfl) fun w0 S0 fs0 φ0 hφ0 hq0 => ?_
  change G _ _ ⟨[(0, .sl m 0 l.length), (1, .int .i64 n)], _, 41⟩
  apply G.seq
  refine G.rg tab_ok (kof_nil _) (hk := ?_)
  apply G.seq
  apply G.seq
  refine G.rg tab_ok (kof_nil _) (hk := ?_)
  apply G.block
  refine G.fg [0, 1, 5] (hk := ?_)
  refine G.loopX (fun j : Nat => ⟨[(0, .sl m 0 l.length), (1, .int .i64 (n + 4 * j)), (5, .int .i64 j)], h.set m (some (4, (upP n l j).map insv)), 41⟩) (fun j => j ≤ l.length) (fun j => l.length - j) (0) (Nat.zero_le _) (by simp [upP_zero, set_same hc1]) ?_
  intro j hj J hJ
  have hw : IntKind.i64.wrap ((j : Int) + 1) = (j : Int) + 1 := wrap64 (by omega) (by omega)
  have hw1 : IntKind.i64.wrap (n + 4 * (j : Int) + 1) = n + 4 * (j : Int) + 1 := wrap64 (by omega) (by omega)
  have hw2 : IntKind.i64.wrap (n + 4 * (j : Int) + 1 + 1) = n + 4 * (j : Int) + 1 + 1 := wrap64 (by omega) (by omega)
  have hw3 : IntKind.i64.wrap (n + 4 * (j : Int) + 1 + 1 + 1) = n + 4 * (j : Int) + 1 + 1 + 1 := wrap64 (by omega) (by omega)
  have hw4 : IntKind.i64.wrap (n + 4 * (j : Int) + 1 + 1 + 1 + 1) = n + 4 * (j : Int) + 1 + 1 + 1 + 1 := wrap64 (by omega) (by omega)
  apply G.seq
  apply G.seq
  refine G.rg tab_ok (kof_nil _) (hk := ?_)
  refine G.iff (h1 := fun h1 => ?_) (h2 := fun h1 => ?_)
  · try simp only [decide_eq_true_eq, decide_eq_false_iff_not, Bool.and_eq_true, Bool.and_eq_false_imp, Bool.or_eq_true, Bool.or_eq_false_iff, Bool.not_eq_true', Bool.not_eq_false', bne_iff_ne, beq_iff_eq, bne_eq_false_iff_eq, beq_eq_false_iff_ne, ne_eq, Int.ofNat_lt, Int.not_lt, Int.not_le, Int.ofNat_le, Nat.not_lt, Nat.not_le, gt_iff_lt, ge_iff_le] at h1
    apply G.skip
    apply G.seq
    apply G.block
    apply G.seq
    have hg := upP_get n h1
    have hs := upP_set n h1
    have hr1 := row_self hg
    have hr2 : ∀ e e2 : List A, (((upP n l j).map insv).set j e).set j e2 = ((upP n l j).map insv).set j e2 := fun _ _ => List.set_set ..
    refine G.rg tab_ok (kof_nil _) (hk := ?_)
    apply G.seq
    refine G.rg tab_ok (kof_nil _) (hk := ?_)
    apply G.seq
    refine G.rg tab_ok (kof_nil _) (hk := ?_)
    apply G.seq
    refine G.rg tab_ok (kof_nil _) (hk := ?_)
    apply G.seq
    refine G.rg tab_ok (kof_nil _) (hk := ?_)
    apply G.seq
    refine G.rg tab_ok (kof_nil _) (hk := ?_)
    apply G.seq
    refine G.fg [0, 1, 5] (hk := ?_)
    refine G.rg tab_ok (kof_nil _) (hk := ?_)
    refine G.rg tab_ok (kof_nil _) (hk := ?_)
    apply G.blk
    refine G.rg tab_ok (kof_nil _) (hk := ?_)
    refine G.fg [0, 1, 5] (hk := ?_)
    have e4 : n + 4 * (j : Int) + 1 + 1 + 1 + 1 = n + 4 * ((j + 1 : Nat) : Int) := by omega
    exact G.upto (hJ (j + 1) (by omega) (by omega)) (by rw [e4]; simp)
  · try simp only [decide_eq_true_eq, decide_eq_false_iff_not, Bool.and_eq_true, Bool.and_eq_false_imp, Bool.or_eq_true, Bool.or_eq_false_iff, Bool.not_eq_true', Bool.not_eq_false', bne_iff_ne, beq_iff_eq, bne_eq_false_iff_eq, beq_eq_false_iff_ne, ne_eq, Int.ofNat_lt, Int.not_lt, Int.not_le, Int.ofNat_le, Nat.not_lt, Nat.not_le, gt_iff_lt, ge_iff_le] at h1
    refine G.exit rfl ?_
    apply G.seq
    refine G.rg tab_ok (kof_nil _) (hk := ?_)
    obtain rfl : j = l.length := by omega
    rw [upP_full]
    refine G.finM (junk := []) tab_ok (hr := ?_) (hh := ?_) (hq := ?_) (hl := ?_)
    · rfl
    · simp
    · rw [List.length_set]; exact hrefs_pure hq0 (pureLL_insv _)
    · rw [List.length_set, hφ0]; exact Nat.le_refl _

theorem en_markIntS : Enters Try.prog 32 := enters_of Try.func32 rfl rfl
theorem en_markInstrS : Enters Try.prog 148 := enters_of Try.func148 rfl rfl
def heldI (n : Int) (rs : List Int) : Int := if rs = mkI n rs.length then n + rs.length else -1
theorem mkI_get {n : Int} {k j : Nat} (h : j < k) : (mkI n k).getD j default = n + j := by simp [mkI, h]
theorem heldI_no {n : Int} {rs : List Int} {j : Nat} (hj : j < rs.length) (h : rs.getD j default ≠ n + j) : heldI n rs = -1 := by
  unfold heldI
  rw [if_neg]
  intro e
  apply h
  have := mkI_get (n := n) hj
  rw [← e] at this
  exact this
theorem heldI_yes {n : Int} {rs : List Int} (h : ∀ j < rs.length, rs.getD j default = n + (j : Int)) : heldI n rs = n + rs.length := by
  unfold heldI
  rw [if_pos]
  apply List.ext_getElem (by rw [mkI_len])
  intro j h1 h2
  have := h j h1
  have e := mkI_get (n := n) h1
  simp only [List.getD_eq_getElem?_getD, List.getElem?_eq_getElem h1, List.getElem?_eq_getElem h2, Option.getD_some] at this e
  rw [this, e]
theorem held_upto {rs : List Int} {n : Int} {i : Nat} (h : ∀ j < i, rs.getD j default = n + (j : Int)) (h2 : rs.getD i default = n + (i : Int)) : ∀ j < i + 1, rs.getD j default = n + (j : Int) := by
  intro j hj
  by_cases e : j = i
  · rw [e]; exact h2
  · exact h j (by omega)
theorem heldIntS_ac (rs : List Int) (n : Int) (hc1 : 0 ≤ n) (hc2 : n ≤ 1099511627776) (hc3 : rs.length < 1099511627776) : AC Try.prog 44 [.row false 1 (rs.map iv), .int .i64 n] (.int .i64 (heldI n rs)) := by
  refine AC.of tab_ok Try.func44 rfl (Nat.le_of_ble_eq_true rfl) fun w0 S0 => ?_
  change G _ _ ⟨[(0, .row false 1 (rs.map iv)), (1, .int .i64 n)], [], 21⟩
  apply G.seq
  refine G.rg tab_ok (kof_nil _) (hk := ?_)
  apply G.seq
  apply G.seq
  refine G.rg tab_ok (kof_nil _) (hk := ?_)
  apply G.block
  refine G.cn [0, 1, 5] [] (h := ?_)
  refine G.loopX (fun j : Nat => ⟨[(0, .row false 1 (rs.map iv)), (1, .int .i64 (n + j)), (5, .int .i64 j)], [], 21⟩) (fun j => j ≤ rs.length ∧ ∀ k < j, rs.getD k default = n + (k : Int)) (fun j => rs.length - j) (0) (⟨Nat.zero_le _, by omega⟩) (by simp) ?_
  intro j hj J hJ
  obtain ⟨hj, hall⟩ := hj
  have hw : IntKind.i64.wrap ((j : Int) + 1) = (j : Int) + 1 := wrap64 (by omega) (by omega)
  have hw2 : IntKind.i64.wrap (n + (j : Int) + 1) = n + (j : Int) + 1 := wrap64 (by omega) (by omega)
  apply G.seq
  apply G.seq
  refine G.rg tab_ok (kof_nil _) (hk := ?_)
  refine G.iff (h1 := fun h1 => ?_) (h2 := fun h1 => ?_)
  · try simp only [decide_eq_true_eq, decide_eq_false_iff_not, Bool.and_eq_true, Bool.and_eq_false_imp, Bool.or_eq_true, Bool.or_eq_false_iff, Bool.not_eq_true', Bool.not_eq_false', bne_iff_ne, beq_iff_eq, bne_eq_false_iff_eq, beq_eq_false_iff_ne, ne_eq, Int.ofNat_lt, Int.not_lt, Int.not_le, Int.ofNat_le, Nat.not_lt, Nat.not_le, gt_iff_lt, ge_iff_le] at h1
    apply G.skip
    apply G.seq
    apply G.block
    apply G.seq
    apply G.seq
    refine G.rg tab_ok (kof_nil _) (hk := ?_)
    refine G.fg [0, 1, 5, 17] (hk := ?_)
    refine G.iff (h1 := fun h2 => ?_) (h2 := fun h2 => ?_)
    · try simp only [decide_eq_true_eq, decide_eq_false_iff_not, Bool.and_eq_true, Bool.and_eq_false_imp, Bool.or_eq_true, Bool.or_eq_false_iff, Bool.not_eq_true', Bool.not_eq_false', bne_iff_ne, beq_iff_eq, bne_eq_false_iff_eq, beq_eq_false_iff_ne, ne_eq, Int.ofNat_lt, Int.not_lt, Int.not_le, Int.ofNat_le, Nat.not_lt, Nat.not_le, gt_iff_lt, ge_iff_le] at h2
      apply G.seq
      refine G.rg tab_ok (kof_nil _) (hk := ?_)
      refine G.fin tab_ok (hr := ?_)
      simp only [oneOrTup]
      congr 1
      exact (heldI_no h1 h2).symm
    · try simp only [decide_eq_true_eq, decide_eq_false_iff_not, Bool.and_eq_true, Bool.and_eq_false_imp, Bool.or_eq_true, Bool.or_eq_false_iff, Bool.not_eq_true', Bool.not_eq_false', bne_iff_ne, beq_iff_eq, bne_eq_false_iff_eq, beq_eq_false_iff_ne, ne_eq, Int.ofNat_lt, Int.not_lt, Int.not_le, Int.ofNat_le, Nat.not_lt, Nat.not_le, gt_iff_lt, ge_iff_le] at h2
      apply G.skip
      refine G.rg tab_ok (kof_nil _) (hk := ?_)
      apply G.blk
      refine G.rg tab_ok (kof_nil _) (hk := ?_)
      refine G.cn [0, 1, 5] [] (h := ?_)
      exact G.upto (hJ (j + 1) ⟨by omega, held_upto hall h2⟩ (by omega)) (by simp [Int.add_assoc])
  · try simp only [decide_eq_true_eq, decide_eq_false_iff_not, Bool.and_eq_true, Bool.and_eq_false_imp, Bool.or_eq_true, Bool.or_eq_false_iff, Bool.not_eq_true', Bool.not_eq_false', bne_iff_ne, beq_iff_eq, bne_eq_false_iff_eq, beq_eq_false_iff_ne, ne_eq, Int.ofNat_lt, Int.not_lt, Int.not_le, Int.ofNat_le, Nat.not_lt, Nat.not_le, gt_iff_lt, ge_iff_le] at h1
    refine G.exit rfl ?_
    apply G.seq
    refine G.rg tab_ok (kof_nil _) (hk := ?_)
    obtain rfl : j = rs.length := by omega
    refine G.fin tab_ok (hr := ?_)
    simp only [oneOrTup]
    congr 1
    exact (heldI_yes hall).symm
def r_heldIntS (xs0 : List A) (rr : A) : Prop := ∃ (rs : List Int) (n : Int), (0 ≤ n) ∧ (n ≤ 1099511627776) ∧ (rs.length < 1099511627776) ∧ xs0 = [.row false 1 (rs.map iv), .int .i64 n] ∧ rr = .int .i64 (heldI n rs)
noncomputable def q_heldIntS : List A → Option A := kgr r_heldIntS
theorem k_heldIntS : KOk Try.prog (44, q_heldIntS) := kgr_ok (enters_of Try.func44 rfl rfl) (by rintro xs0 rr ⟨rs, n, hc1, hc2, hc3, rfl, rfl⟩; exact heldIntS_ac rs n hc1 hc2 hc3)
theorem e_heldIntS : ∀ (rs : List Int) (n : Int), (0 ≤ n) → (n ≤ 1099511627776) → (rs.length < 1099511627776) → q_heldIntS [.row false 1 (rs.map iv), .int .i64 n] = some (.int .i64 (heldI n rs)) := by
  intro rs n hc1 hc2 hc3
  refine kgr_eq (fun xs0 rr r2 h h2 => ?_) ⟨rs, n, hc1, hc2, hc3, rfl, rfl⟩
  obtain ⟨rs1, n1, _, _, _, e1, rfl⟩ := h; obtain ⟨rs2, n2, _, _, _, e2, rfl⟩ := h2
  rw [e1] at e2
  simp only [List.cons.injEq, A.int.injEq, A.bool.injEq, A.agg.injEq, A.row.injEq, A.fn.injEq, A.rp.injEq, insv_inj, iv_inj, true_and, and_true] at e2
  simp [e2]

-- not in this seat: heldActor


-- not in this seat: markActor


-- not in this seat: markProgram


end Go.Proofs.Yticgaflgbljhlaa.Ab
