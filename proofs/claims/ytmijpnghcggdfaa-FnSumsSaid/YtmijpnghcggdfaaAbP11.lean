/- Walks of functions of the program: what each answers, for all arguments that meet its conditions. -/
import Derived.Test.YtmijpnghcggdfaaAbP5
import Derived.Test.YtmijpnghcggdfaaFwB
namespace Go.Proofs.Ytmijpnghcggdfaa.Ab
open Go
set_option linter.unusedVariables false
set_option linter.unusedSimpArgs false
set_option maxHeartbeats 4000000

theorem ok_specHoldT : Kn.ok Try.prog (kof [(55, q_specIsStream)]) := kof_cons k_specIsStream ((kof_nil _))
def holdL (N : Nat) (rs : List Int) : List Int := rs.flatMap fun x => List.replicate N x
theorem holdL_len (N : Nat) (rs : List Int) : (holdL N rs).length = rs.length * N := by
  induction rs with
  | nil => simp [holdL]
  | cons x rs ih => simp only [holdL, List.flatMap_cons, List.length_append, List.length_replicate, List.length_cons] at ih ⊢; rw [ih, Nat.add_mul]; omega
theorem holdL_step (N : Nat) {rs : List Int} {j : Nat} (h : j < rs.length) : holdL N (rs.take (j + 1)) = holdL N (rs.take j) ++ List.replicate N (rs.getD j default) := by
  rw [List.take_succ_eq_append_getElem h]
  simp only [holdL, List.flatMap_append, List.flatMap_cons, List.flatMap_nil, List.append_nil]
  simp [h]
def holdI (N : Nat) (rs : List Int) (j i : Nat) : List Int := holdL N (rs.take j) ++ List.replicate i (rs.getD j default)
theorem holdI_zero (N : Nat) (rs : List Int) (j : Nat) : holdI N rs j 0 = holdL N (rs.take j) := by simp [holdI]
theorem holdI_full (N : Nat) {rs : List Int} {j : Nat} (h : j < rs.length) : holdI N rs j N = holdL N (rs.take (j + 1)) := (holdL_step N h).symm
theorem holdI_succ (N : Nat) (rs : List Int) (j i : Nat) : (holdI N rs j i).map iv ++ [[.int .i64 (rs.getD j default)]] = (holdI N rs j (i + 1)).map iv := by
  simp only [holdI, List.replicate_succ', List.map_append, List.map_cons, List.map_nil, iv, List.append_assoc]
theorem holdI_len (N : Nat) (rs : List Int) (j i : Nat) : (holdI N rs j i).length = (holdL N (rs.take j)).length + i := by simp [holdI]
theorem strOk_len {xs : List Int} (h : strOk xs = true) : xs.length ≤ 400 := by
  simp only [strOk, Bool.and_eq_true, decide_eq_true_eq] at h
  omega
theorem specHoldT_ac (rs : List Int) (n : Int) (hc1 : rs.length < 17592186044416) (hc2 : strOk rs = true) (hc3 : ¬ n < 0) (hc4 : 0 < rs.length → n ≤ 400) (hc5 : strOk (holdL n.toNat rs) = true) : AC Try.prog 12 [.row false 1 (rs.map iv), .int .i64 n] (.tup [.row true 1 ((holdL n.toNat rs).map iv), .bool true]) := by
  have e_specIsStream := e_specIsStream
  have hl := strOk_len hc2
  have hl2 : (holdL n.toNat rs).length < 17592186044416 := by have := strOk_len hc5; omega
  have hp1 : ∀ (a : List Int) (x : Int), pureLL (List.map iv a ++ [[.int .i64 x]]) = true := fun a x => by rw [pureLL_app, pureLL_iv]; rfl
  refine AC.of tab_ok Try.func12 rfl (Nat.le_of_ble_eq_true rfl) fun w0 S0 => ?_
  change G _ _ ⟨[(0, .row false 1 (rs.map iv)), (1, .int .i64 n)], [], 47⟩
  apply G.seq
  refine G.rg tab_ok ok_specHoldT (hk := ?_)
  apply G.seq
  apply G.seq
  refine G.rg tab_ok ok_specHoldT (hk := ?_)
  refine G.fg [0, 1, 25] (hk := ?_)
  refine G.iffF (ht := by simp [*]; exact hc4) (h2 := ?_)
  apply G.skip
  apply G.seq
  refine G.rg tab_ok ok_specHoldT (hk := ?_)
  apply G.seq
  apply G.seq
  refine G.rg tab_ok ok_specHoldT (hk := ?_)
  apply G.block
  refine G.cn [1, 6, 27, 28, 29] [0] (h := ?_)
  refine G.loopX (fun j : Nat => ⟨[(1, .int .i64 n), (6, .sl 0 0 (holdL n.toNat (rs.take j)).length), (27, .row false 1 (rs.map iv)), (28, .int .i64 rs.length), (29, .int .i64 j)], [some (1, (holdL n.toNat (rs.take j)).map iv)], 47⟩) (fun j => j ≤ rs.length) (fun j => rs.length - j) (0) (Nat.zero_le _) (by simp [holdL]) ?_
  intro j hj J hJ
  have hw : IntKind.i64.wrap ((j : Int) + 1) = (j : Int) + 1 := wrap64 (by omega) (by omega)
  apply G.seq
  refine G.rg tab_ok ok_specHoldT (hk := ?_)
  apply G.seq
  refine G.iff (h1 := fun h2 => ?_) (h2 := fun h2 => ?_)
  · try simp only [decide_eq_true_eq, decide_eq_false_iff_not, Bool.and_eq_true, Bool.and_eq_false_imp, Bool.or_eq_true, Bool.or_eq_false_iff, Bool.not_eq_true', Bool.not_eq_false', bne_iff_ne, beq_iff_eq, bne_eq_false_iff_eq, beq_eq_false_iff_ne, ne_eq, Int.ofNat_lt, Int.not_lt, Int.not_le, Int.ofNat_le, Nat.not_lt, Nat.not_le, gt_iff_lt, ge_iff_le] at h2
    apply G.skip
    apply G.seq
    apply G.block
    apply G.seq
    refine G.rg tab_ok ok_specHoldT (hk := ?_)
    apply G.seq
    refine G.rg tab_ok ok_specHoldT (hk := ?_)
    apply G.block
    refine G.cn [1, 6, 8, 9, 27, 28, 29] [0] (h := ?_)
    refine G.loopX (fun i : Nat => ⟨[(1, .int .i64 n), (6, .sl 0 0 (holdI n.toNat rs j i).length), (8, .int .i64 (rs.getD j default)), (9, .int .i64 i), (27, .row false 1 (rs.map iv)), (28, .int .i64 rs.length), (29, .int .i64 j)], [some (1, (holdI n.toNat rs j i).map iv)], 47⟩) (fun i => (i : Int) ≤ n) (fun i => n.toNat - i) (0) (by omega) (by simp [holdI_zero]) ?_
    intro i hi J2 hJ2
    have hn4 : n ≤ 400 := hc4 (by omega)
    have hbig : (holdI n.toNat rs j i).length ≤ 160400 := by
      rw [holdI_len, holdL_len, List.length_take]
      have := Nat.mul_le_mul (Nat.le_trans (Nat.min_le_right j rs.length) hl) (show n.toNat ≤ 400 by omega)
      omega
    have hw2 : IntKind.i64.wrap ((i : Int) + 1) = (i : Int) + 1 := wrap64 (by omega) (by omega)
    have hb1 : (((holdI n.toNat rs j i).length + 1 : Nat) : Int) ≤ 4611686018427387904 := by omega
    have hb2 : ((holdI n.toNat rs j i).length + 1) * 8 ≤ 70368744177664 := by omega
    apply G.seq
    apply G.seq
    refine G.rg tab_ok ok_specHoldT (hk := ?_)
    refine G.iff (h1 := fun h3 => ?_) (h2 := fun h3 => ?_)
    · try simp only [decide_eq_true_eq, decide_eq_false_iff_not, Bool.and_eq_true, Bool.and_eq_false_imp, Bool.or_eq_true, Bool.or_eq_false_iff, Bool.not_eq_true', Bool.not_eq_false', bne_iff_ne, beq_iff_eq, bne_eq_false_iff_eq, beq_eq_false_iff_ne, ne_eq, Int.ofNat_lt, Int.not_lt, Int.not_le, Int.ofNat_le, Nat.not_lt, Nat.not_le, gt_iff_lt, ge_iff_le] at h3
      apply G.skip
      apply G.seq
      apply G.block
      refine G.rg tab_ok ok_specHoldT (hk := ?_)
      apply G.blk
      refine G.rg tab_ok ok_specHoldT (hk := ?_)
      refine G.cn [1, 6, 8, 9, 27, 28, 29] [2] (h := ?_)
      exact G.upto (hJ2 (i + 1) (by omega) (by omega)) (by rw [holdI_succ, show (holdI n.toNat rs j i).length + 1 = (holdI n.toNat rs j (i + 1)).length by rw [holdI_len, holdI_len]; omega]; simp)
    · try simp only [decide_eq_true_eq, decide_eq_false_iff_not, Bool.and_eq_true, Bool.and_eq_false_imp, Bool.or_eq_true, Bool.or_eq_false_iff, Bool.not_eq_true', Bool.not_eq_false', bne_iff_ne, beq_iff_eq, bne_eq_false_iff_eq, beq_eq_false_iff_ne, ne_eq, Int.ofNat_lt, Int.not_lt, Int.not_le, Int.ofNat_le, Nat.not_lt, Nat.not_le, gt_iff_lt, ge_iff_le] at h3
      refine G.exit rfl ?_
      apply G.blk
      refine G.rg tab_ok ok_specHoldT (hk := ?_)
      refine G.cn [1, 6, 27, 28, 29] [0] (h := ?_)
      obtain rfl : i = n.toNat := by omega
      rw [holdI_full _ h2]
      exact G.upto (hJ (j + 1) (by omega) (by omega)) (by simp)
  · try simp only [decide_eq_true_eq, decide_eq_false_iff_not, Bool.and_eq_true, Bool.and_eq_false_imp, Bool.or_eq_true, Bool.or_eq_false_iff, Bool.not_eq_true', Bool.not_eq_false', bne_iff_ne, beq_iff_eq, bne_eq_false_iff_eq, beq_eq_false_iff_ne, ne_eq, Int.ofNat_lt, Int.not_lt, Int.not_le, Int.ofNat_le, Nat.not_lt, Nat.not_le, gt_iff_lt, ge_iff_le] at h2
    refine G.exit rfl ?_
    apply G.seq
    apply G.seq
    obtain rfl : j = rs.length := by omega
    rw [List.take_length]
    refine G.rg tab_ok ok_specHoldT (hk := ?_)
    refine G.iffF (h2 := ?_)
    apply G.skip
    apply G.seq
    refine G.rg tab_ok ok_specHoldT (hk := ?_)
    refine G.fin tab_ok (hr := ?_)
    rfl

theorem ok_specHoldF : Kn.ok Try.prog (kof [(55, q_specIsStream)]) := kof_cons k_specIsStream ((kof_nil _))
theorem specHoldF_ac (rs : List Int) (n : Int) (hc1 : rs.length < 17592186044416) (hc2 : strOk rs = true) (hc3 : ¬ n < 0) (hc4 : 0 < rs.length → n ≤ 400) (hc5 : strOk (holdL n.toNat rs) = false) : AC Try.prog 12 [.row false 1 (rs.map iv), .int .i64 n] (.tup [.nils, .bool false]) := by
  have e_specIsStream := e_specIsStream
  have hl := strOk_len hc2
  have hl2 : (holdL n.toNat rs).length < 17592186044416 := by
    rw [holdL_len]
    rcases Nat.eq_zero_or_pos rs.length with h | h
    · rw [h]; omega
    · have := hc4 h
      exact Nat.lt_of_le_of_lt (Nat.mul_le_mul hl (show n.toNat ≤ 400 by omega)) (by decide)
  have hp1 : ∀ (a : List Int) (x : Int), pureLL (List.map iv a ++ [[.int .i64 x]]) = true := fun a x => by rw [pureLL_app, pureLL_iv]; rfl
  refine AC.of tab_ok Try.func12 rfl (Nat.le_of_ble_eq_true rfl) fun w0 S0 => ?_
  change G _ _ ⟨[(0, .row false 1 (rs.map iv)), (1, .int .i64 n)], [], 47⟩
  apply G.seq
  refine G.rg tab_ok ok_specHoldF (hk := ?_)
  apply G.seq
  apply G.seq
  refine G.rg tab_ok ok_specHoldF (hk := ?_)
  refine G.fg [0, 1, 25] (hk := ?_)
  refine G.iffF (ht := by simp [*]; exact hc4) (h2 := ?_)
  apply G.skip
  apply G.seq
  refine G.rg tab_ok ok_specHoldF (hk := ?_)
  apply G.seq
  apply G.seq
  refine G.rg tab_ok ok_specHoldF (hk := ?_)
  apply G.block
  refine G.cn [1, 6, 27, 28, 29] [0] (h := ?_)
  refine G.loopX (fun j : Nat => ⟨[(1, .int .i64 n), (6, .sl 0 0 (holdL n.toNat (rs.take j)).length), (27, .row false 1 (rs.map iv)), (28, .int .i64 rs.length), (29, .int .i64 j)], [some (1, (holdL n.toNat (rs.take j)).map iv)], 47⟩) (fun j => j ≤ rs.length) (fun j => rs.length - j) (0) (Nat.zero_le _) (by simp [holdL]) ?_
  intro j hj J hJ
  have hw : IntKind.i64.wrap ((j : Int) + 1) = (j : Int) + 1 := wrap64 (by omega) (by omega)
  apply G.seq
  refine G.rg tab_ok ok_specHoldF (hk := ?_)
  apply G.seq
  refine G.iff (h1 := fun h2 => ?_) (h2 := fun h2 => ?_)
  · try simp only [decide_eq_true_eq, decide_eq_false_iff_not, Bool.and_eq_true, Bool.and_eq_false_imp, Bool.or_eq_true, Bool.or_eq_false_iff, Bool.not_eq_true', Bool.not_eq_false', bne_iff_ne, beq_iff_eq, bne_eq_false_iff_eq, beq_eq_false_iff_ne, ne_eq, Int.ofNat_lt, Int.not_lt, Int.not_le, Int.ofNat_le, Nat.not_lt, Nat.not_le, gt_iff_lt, ge_iff_le] at h2
    apply G.skip
    apply G.seq
    apply G.block
    apply G.seq
    refine G.rg tab_ok ok_specHoldF (hk := ?_)
    apply G.seq
    refine G.rg tab_ok ok_specHoldF (hk := ?_)
    apply G.block
    refine G.cn [1, 6, 8, 9, 27, 28, 29] [0] (h := ?_)
    refine G.loopX (fun i : Nat => ⟨[(1, .int .i64 n), (6, .sl 0 0 (holdI n.toNat rs j i).length), (8, .int .i64 (rs.getD j default)), (9, .int .i64 i), (27, .row false 1 (rs.map iv)), (28, .int .i64 rs.length), (29, .int .i64 j)], [some (1, (holdI n.toNat rs j i).map iv)], 47⟩) (fun i => (i : Int) ≤ n) (fun i => n.toNat - i) (0) (by omega) (by simp [holdI_zero]) ?_
    intro i hi J2 hJ2
    have hn4 : n ≤ 400 := hc4 (by omega)
    have hbig : (holdI n.toNat rs j i).length ≤ 160400 := by
      rw [holdI_len, holdL_len, List.length_take]
      have := Nat.mul_le_mul (Nat.le_trans (Nat.min_le_right j rs.length) hl) (show n.toNat ≤ 400 by omega)
      omega
    have hw2 : IntKind.i64.wrap ((i : Int) + 1) = (i : Int) + 1 := wrap64 (by omega) (by omega)
    have hb1 : (((holdI n.toNat rs j i).length + 1 : Nat) : Int) ≤ 4611686018427387904 := by omega
    have hb2 : ((holdI n.toNat rs j i).length + 1) * 8 ≤ 70368744177664 := by omega
    apply G.seq
    apply G.seq
    refine G.rg tab_ok ok_specHoldF (hk := ?_)
    refine G.iff (h1 := fun h3 => ?_) (h2 := fun h3 => ?_)
    · try simp only [decide_eq_true_eq, decide_eq_false_iff_not, Bool.and_eq_true, Bool.and_eq_false_imp, Bool.or_eq_true, Bool.or_eq_false_iff, Bool.not_eq_true', Bool.not_eq_false', bne_iff_ne, beq_iff_eq, bne_eq_false_iff_eq, beq_eq_false_iff_ne, ne_eq, Int.ofNat_lt, Int.not_lt, Int.not_le, Int.ofNat_le, Nat.not_lt, Nat.not_le, gt_iff_lt, ge_iff_le] at h3
      apply G.skip
      apply G.seq
      apply G.block
      refine G.rg tab_ok ok_specHoldF (hk := ?_)
      apply G.blk
      refine G.rg tab_ok ok_specHoldF (hk := ?_)
      refine G.cn [1, 6, 8, 9, 27, 28, 29] [2] (h := ?_)
      exact G.upto (hJ2 (i + 1) (by omega) (by omega)) (by rw [holdI_succ, show (holdI n.toNat rs j i).length + 1 = (holdI n.toNat rs j (i + 1)).length by rw [holdI_len, holdI_len]; omega]; simp)
    · try simp only [decide_eq_true_eq, decide_eq_false_iff_not, Bool.and_eq_true, Bool.and_eq_false_imp, Bool.or_eq_true, Bool.or_eq_false_iff, Bool.not_eq_true', Bool.not_eq_false', bne_iff_ne, beq_iff_eq, bne_eq_false_iff_eq, beq_eq_false_iff_ne, ne_eq, Int.ofNat_lt, Int.not_lt, Int.not_le, Int.ofNat_le, Nat.not_lt, Nat.not_le, gt_iff_lt, ge_iff_le] at h3
      refine G.exit rfl ?_
      apply G.blk
      refine G.rg tab_ok ok_specHoldF (hk := ?_)
      refine G.cn [1, 6, 27, 28, 29] [0] (h := ?_)
      obtain rfl : i = n.toNat := by omega
      rw [holdI_full _ h2]
      exact G.upto (hJ (j + 1) (by omega) (by omega)) (by simp)
  · try simp only [decide_eq_true_eq, decide_eq_false_iff_not, Bool.and_eq_true, Bool.and_eq_false_imp, Bool.or_eq_true, Bool.or_eq_false_iff, Bool.not_eq_true', Bool.not_eq_false', bne_iff_ne, beq_iff_eq, bne_eq_false_iff_eq, beq_eq_false_iff_ne, ne_eq, Int.ofNat_lt, Int.not_lt, Int.not_le, Int.ofNat_le, Nat.not_lt, Nat.not_le, gt_iff_lt, ge_iff_le] at h2
    refine G.exit rfl ?_
    apply G.seq
    apply G.seq
    obtain rfl : j = rs.length := by omega
    rw [List.take_length]
    refine G.rg tab_ok ok_specHoldF (hk := ?_)
    refine G.iffT (h1 := ?_)
    apply G.seq
    refine G.rg tab_ok ok_specHoldF (hk := ?_)
    refine G.fin tab_ok (hr := ?_)
    rfl

theorem ok_specHoldB : Kn.ok Try.prog (kof [(55, q_specIsStream)]) := kof_cons k_specIsStream ((kof_nil _))
theorem specHoldB_ac (rs : List Int) (n : Int) (hc1 : rs.length < 17592186044416) (hc2 : (!(strOk rs) || decide (n < 0) || (decide ((rs.length : Int) > 0) && decide (n > 400))) = true) : AC Try.prog 12 [.row false 1 (rs.map iv), .int .i64 n] (.tup [.nils, .bool false]) := by
  have e_specIsStream := e_specIsStream
  refine AC.of tab_ok Try.func12 rfl (Nat.le_of_ble_eq_true rfl) fun w0 S0 => ?_
  change G _ _ ⟨[(0, .row false 1 (rs.map iv)), (1, .int .i64 n)], [], 47⟩
  apply G.seq
  refine G.rg tab_ok ok_specHoldB (hk := ?_)
  apply G.seq
  apply G.seq
  refine G.rg tab_ok ok_specHoldB (hk := ?_)
  refine G.fg [0, 1, 25] (hk := ?_)
  refine G.iffT (ht := by first | assumption | simpa using hc2) (h1 := ?_)
  apply G.seq
  refine G.rg tab_ok ok_specHoldB (hk := ?_)
  refine G.fin tab_ok (hr := ?_)
  rfl

def holdBad (rs : List Int) (n : Int) : Bool := !(strOk rs) || decide (n < 0) || (decide ((rs.length : Int) > 0) && decide (n > 400))
def holdOut (rs : List Int) (n : Int) : List Int × Bool := if holdBad rs n = true then ([], false) else if strOk (holdL n.toNat rs) = true then (holdL n.toNat rs, true) else ([], false)
theorem weak_nil2 {w : World} {S : Nat → Prop} {x : A} {v : Value} {f : List Nat} (h : Rel w S [] (.tup [.nils, x]) v f) : Rel w S [] (.tup [.row true 1 [], x]) v f := by
  cases h with
  | tup h =>
    cases h with
    | cons h1 h =>
      cases h1
      exact .tup (.cons (.own0 _ _) h)
theorem specHold_ac (rs : List Int) (n : Int) (hc1 : rs.length < 17592186044416) : AC Try.prog 12 [.row false 1 (rs.map iv), .int .i64 n] (.tup [.row true 1 ((holdOut rs n).1.map iv), .bool (holdOut rs n).2]) := by
  cases hb : holdBad rs n with
  | true =>
    refine AC.weak (specHoldB_ac rs n hc1 (by unfold holdBad at hb; exact hb)) fun w S v f h => ?_
    simp only [holdOut, hb, if_true, List.map_nil]
    exact weak_nil2 h
  | false =>
    have hb2 := hb
    unfold holdBad at hb2
    simp only [Bool.or_eq_false_iff, Bool.not_eq_false', Bool.and_eq_false_imp, decide_eq_false_iff_not, decide_eq_true_eq] at hb2
    obtain ⟨⟨h1, h2⟩, h3⟩ := hb2
    have h4 : 0 < rs.length → n ≤ 400 := fun h => by have := h3 (by omega); omega
    cases hs : strOk (holdL n.toNat rs) with
    | true =>
      have := specHoldT_ac rs n hc1 h1 h2 h4 hs
      simpa [holdOut, hb, hs] using this
    | false =>
      refine AC.weak (specHoldF_ac rs n hc1 h1 h2 h4 hs) fun w S v f h => ?_
      simp only [holdOut, hb, hs, Bool.false_eq_true, if_false, List.map_nil]
      exact weak_nil2 h
def r_specHold (xs0 : List A) (rr : A) : Prop := ∃ (rs : List Int) (n : Int), (rs.length < 17592186044416) ∧ xs0 = [.row false 1 (rs.map iv), .int .i64 n] ∧ rr = .tup [.row true 1 ((holdOut rs n).1.map iv), .bool (holdOut rs n).2]
noncomputable def q_specHold : List A → Option A := kgr r_specHold
theorem k_specHold : KOk Try.prog (12, q_specHold) := kgr_ok (enters_of Try.func12 rfl rfl) (by rintro xs0 rr ⟨rs, n, hc1, rfl, rfl⟩; exact specHold_ac rs n hc1)
theorem e_specHold : ∀ (rs : List Int) (n : Int), (rs.length < 17592186044416) → q_specHold [.row false 1 (rs.map iv), .int .i64 n] = some (.tup [.row true 1 ((holdOut rs n).1.map iv), .bool (holdOut rs n).2]) := by
  intro rs n hc1
  refine kgr_eq (fun xs0 rr r2 h h2 => ?_) ⟨rs, n, hc1, rfl, rfl⟩
  obtain ⟨rs1, n1, _, e1, rfl⟩ := h; obtain ⟨rs2, n2, _, e2, rfl⟩ := h2
  rw [e1] at e2
  simp only [List.cons.injEq, A.int.injEq, A.bool.injEq, A.agg.injEq, A.row.injEq, A.fn.injEq, A.rp.injEq, insv_inj, iv_inj, true_and, and_true] at e2
  simp [e2]

end Go.Proofs.Ytmijpnghcggdfaa.Ab
