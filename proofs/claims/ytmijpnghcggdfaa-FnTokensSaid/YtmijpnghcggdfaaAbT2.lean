/- Walks of functions of the program: what each answers, for all arguments that meet its conditions. -/
import Derived.Test.YtmijpnghcggdfaaAbT1
namespace Go.Proofs.Ytmijpnghcggdfaa.Ab
open Go
set_option linter.unusedVariables false
set_option linter.unusedSimpArgs false
set_option maxHeartbeats 4000000

theorem ok_lawTokens : Kn.ok Try.prog (kof [(24, q_lawAt), (23, q_implWrap), (25, q_implStepActor), (26, q_specIsActor)]) := kof_cons k_lawAt (kof_cons k_implWrap (kof_cons k_implStepActor (kof_cons k_specIsActor ((kof_nil _)))))

structure TokE (op x y v : Int) : Prop where
  s1 : q_implStepActor [.agg [.int .i64 0, .int .i64 0, .row false 4 [[.int .i64 op, .int .i64 2, .int .i64 0, .int .i64 1], [.int .i64 10, .int .i64 2, .int .i64 3, .int .i64 0], [.int .i64 11, .int .i64 0, .int .i64 0, .int .i64 0]]], .agg [.int .i64 0, .row false 1 [[.int .i64 x], [.int .i64 y], [.int .i64 0], [.int .i64 0]]], .int .i64 0] = some (.tup [.agg [.int .i64 1, .row true 1 [[.int .i64 x], [.int .i64 y], [.int .i64 v], [.int .i64 0]]], .int .i64 0, .bool true])
  s2a : v < 0 → q_implStepActor [.agg [.int .i64 0, .int .i64 0, .row false 4 [[.int .i64 op, .int .i64 2, .int .i64 0, .int .i64 1], [.int .i64 10, .int .i64 2, .int .i64 3, .int .i64 0], [.int .i64 11, .int .i64 0, .int .i64 0, .int .i64 0]]], .agg [.int .i64 1, .row false 1 [[.int .i64 x], [.int .i64 y], [.int .i64 v], [.int .i64 0]]], .int .i64 0] = some (.tup [.agg [.int .i64 3, .row true 1 [[.int .i64 x], [.int .i64 y], [.int .i64 v], [.int .i64 0]]], .int .i64 0, .bool true])
  s2b : ¬ v < 0 → q_implStepActor [.agg [.int .i64 0, .int .i64 0, .row false 4 [[.int .i64 op, .int .i64 2, .int .i64 0, .int .i64 1], [.int .i64 10, .int .i64 2, .int .i64 3, .int .i64 0], [.int .i64 11, .int .i64 0, .int .i64 0, .int .i64 0]]], .agg [.int .i64 1, .row false 1 [[.int .i64 x], [.int .i64 y], [.int .i64 v], [.int .i64 0]]], .int .i64 0] = some (.tup [.agg [.int .i64 2, .row true 1 [[.int .i64 x], [.int .i64 y], [.int .i64 v], [.int .i64 0]]], .int .i64 0, .bool true])
  s3a : v < 0 → q_implStepActor [.agg [.int .i64 0, .int .i64 0, .row false 4 [[.int .i64 op, .int .i64 2, .int .i64 0, .int .i64 1], [.int .i64 10, .int .i64 2, .int .i64 3, .int .i64 0], [.int .i64 11, .int .i64 0, .int .i64 0, .int .i64 0]]], .agg [.int .i64 3, .row false 1 [[.int .i64 x], [.int .i64 y], [.int .i64 v], [.int .i64 0]]], .int .i64 0] = some (.tup [.agg [.int .i64 0, .row true 1 []], .int .i64 0, .bool false])
  s3b : ¬ v < 0 → q_implStepActor [.agg [.int .i64 0, .int .i64 0, .row false 4 [[.int .i64 op, .int .i64 2, .int .i64 0, .int .i64 1], [.int .i64 10, .int .i64 2, .int .i64 3, .int .i64 0], [.int .i64 11, .int .i64 0, .int .i64 0, .int .i64 0]]], .agg [.int .i64 2, .row false 1 [[.int .i64 x], [.int .i64 y], [.int .i64 v], [.int .i64 0]]], .int .i64 0] = some (.tup [.agg [.int .i64 0, .row true 1 []], .int .i64 0, .bool false])
  i1 : q_specIsActor [.agg [.int .i64 0, .int .i64 0, .row false 4 [[.int .i64 op, .int .i64 2, .int .i64 0, .int .i64 1], [.int .i64 10, .int .i64 2, .int .i64 3, .int .i64 0], [.int .i64 11, .int .i64 0, .int .i64 0, .int .i64 0]]], .agg [.int .i64 1, .row false 1 [[.int .i64 x], [.int .i64 y], [.int .i64 v], [.int .i64 0]]]] = some (.bool true)
  i2a : v < 0 → q_specIsActor [.agg [.int .i64 0, .int .i64 0, .row false 4 [[.int .i64 op, .int .i64 2, .int .i64 0, .int .i64 1], [.int .i64 10, .int .i64 2, .int .i64 3, .int .i64 0], [.int .i64 11, .int .i64 0, .int .i64 0, .int .i64 0]]], .agg [.int .i64 3, .row false 1 [[.int .i64 x], [.int .i64 y], [.int .i64 v], [.int .i64 0]]]] = some (.bool true)
  i2b : ¬ v < 0 → q_specIsActor [.agg [.int .i64 0, .int .i64 0, .row false 4 [[.int .i64 op, .int .i64 2, .int .i64 0, .int .i64 1], [.int .i64 10, .int .i64 2, .int .i64 3, .int .i64 0], [.int .i64 11, .int .i64 0, .int .i64 0, .int .i64 0]]], .agg [.int .i64 2, .row false 1 [[.int .i64 x], [.int .i64 y], [.int .i64 v], [.int .i64 0]]]] = some (.bool true)
  ok : -999999 ≤ v ∧ v ≤ 999999
  r7 : op = 7 → ¬ v < 0
  r8 : op = 7 → y ≠ 0 → (x - v).tmod y = 0
theorem tokE {op x y : Int} (hop : op = 4 ∨ op = 5 ∨ op = 6 ∨ op = 7) (hx : -999999 ≤ x ∧ x ≤ 999999) (hy : -999999 ≤ y ∧ y ≤ 999999) : TokE op x y (tokV op x y) := by
  have hv := tokV_ok hop hx hy
  have g1 := tok_step1 hop hx hy
  have g2 := tok_step2 hop hx hy hv
  have ga : ∀ pc v, 0 ≤ pc → pc ≤ 3 → -999999 ≤ v ∧ v ≤ 999999 → (progOk 0 0 (tokL op) && actOk pc ((tokL op).length : Nat) [x, y, v, 0]) = true := fun pc v h0 h1 hv => by rw [tok_prog hop hx hy, tok_act hop hx hy hv h0 h1]; rfl
  have l1 : (tokL op).length < 4398046511104 := by show 3 < 4398046511104; omega
  have l2 : ∀ v : Int, [x, y, v, (0 : Int)].length < 17592186044416 := fun v => by show 4 < 17592186044416; omega
  have es : ∀ pc v, q_implStepActor [.agg [.int .i64 0, .int .i64 0, .row false 4 ((tokL op).map insv)], .agg [.int .i64 pc, .row false 1 ([x, y, v, 0].map iv)], .int .i64 0] = _ := fun pc v => e_implStepActor 0 0 (tokL op) pc [x, y, v, 0] 0 l1 (l2 v)
  have ei : ∀ pc v, q_specIsActor [.agg [.int .i64 0, .int .i64 0, .row false 4 ((tokL op).map insv)], .agg [.int .i64 pc, .row false 1 ([x, y, v, 0].map iv)]] = _ := fun pc v => e_specIsActor 0 0 (tokL op) pc [x, y, v, 0] l1 (l2 v)
  refine ⟨?_, fun h => ?_, fun h => ?_, fun h => ?_, fun h => ?_, ?_, fun h => ?_, fun h => ?_, hv, fun h => ?_, fun h => ?_⟩
  · have e := es 0 0; rw [g1] at e; exact e
  · have e := es 1 (tokV op x y); rw [g2, if_pos h] at e; exact e
  · have e := es 1 (tokV op x y); rw [g2, if_neg h] at e; exact e
  · have e := es 3 (tokV op x y); rw [tok_step3 hop hx hy (.inr rfl)] at e; exact e
  · have e := es 2 (tokV op x y); rw [tok_step3 hop hx hy (.inl rfl)] at e; exact e
  · have e := ei 1 (tokV op x y); rw [ga 1 _ (by omega) (by omega) hv] at e; exact e
  · have e := ei 3 (tokV op x y); rw [ga 3 _ (by omega) (by omega) hv] at e; exact e
  · have e := ei 2 (tokV op x y); rw [ga 2 _ (by omega) (by omega) hv] at e; exact e
  · subst h; have := (tok_rest (x := x) hy).1; omega
  · subst h; exact (tok_rest hy).2
theorem mul_b {a b N : Int} (ha : 0 ≤ a ∧ a ≤ 255) (hb : 0 ≤ b ∧ b ≤ N) : 0 ≤ a * b ∧ a * b ≤ 255 * N :=
  ⟨Int.mul_nonneg ha.1 hb.1, Int.mul_le_mul ha.2 hb.2 hb.1 (by omega)⟩
theorem mul_c {a b M N : Int} (ha : 0 ≤ a ∧ a ≤ M) (hb : 0 ≤ b ∧ b ≤ N) : 0 ≤ a * b ∧ a * b ≤ M * N :=
  ⟨Int.mul_nonneg ha.1 hb.1, Int.mul_le_mul ha.2 hb.2 hb.1 (by omega)⟩
theorem lawTokens_ac (bs : List Int) (hc1 : bs.length < 140737488355328) (hc2 : ∀ x ∈ bs, 0 ≤ x ∧ x ≤ 255) : AC Try.prog 5 [.row false 1 (bs.map bv)] (.bool true) := by
  have e_lawAt := e_lawAt
  have e_implWrap := e_implWrap
  have e_implStepActor := e_implStepActor
  have e_specIsActor := e_specIsActor
  have hc3 := hc1
  clear hc1
  have hc1 : BW bs := ⟨hc2⟩
  clear hc2
  have hft : (false == true) = false := rfl
  have htf : (true == false) = false := rfl
  refine AC.of tab_ok Try.func5 rfl (Nat.le_of_ble_eq_true rfl) fun w0 S0 => ?_
  change G _ _ ⟨[(0, .row false 1 (bs.map bv))], [], 150⟩
  apply G.seq
  refine G.rg tab_ok ok_lawTokens (hk := ?_)
  apply G.seq
  apply G.seq
  refine G.rg tab_ok ok_lawTokens (hk := ?_)
  refine G.iff (h1 := fun h1 => ?_) (h2 := fun h1 => ?_)
  · try simp only [decide_eq_true_eq, decide_eq_false_iff_not, Bool.and_eq_true, Bool.and_eq_false_imp, Bool.or_eq_true, Bool.or_eq_false_iff, Bool.not_eq_true', Bool.not_eq_false', bne_iff_ne, beq_iff_eq, bne_eq_false_iff_eq, beq_eq_false_iff_ne, ne_eq, Int.ofNat_lt, Int.not_lt, Int.not_le, Int.ofNat_le, Nat.not_lt, Nat.not_le, gt_iff_lt, ge_iff_le] at h1
    apply G.seq
    refine G.rg tab_ok ok_lawTokens (hk := ?_)
    refine G.fin tab_ok (hr := ?_)
    rfl
  · try simp only [decide_eq_true_eq, decide_eq_false_iff_not, Bool.and_eq_true, Bool.and_eq_false_imp, Bool.or_eq_true, Bool.or_eq_false_iff, Bool.not_eq_true', Bool.not_eq_false', bne_iff_ne, beq_iff_eq, bne_eq_false_iff_eq, beq_eq_false_iff_ne, ne_eq, Int.ofNat_lt, Int.not_lt, Int.not_le, Int.ofNat_le, Nat.not_lt, Nat.not_le, gt_iff_lt, ge_iff_le] at h1
    apply G.skip
    apply G.seq
    refine G.rg tab_ok ok_lawTokens (hk := ?_)
    apply G.seq
    apply G.seq
    refine G.rg tab_ok ok_lawTokens (hk := ?_)
    apply G.block
    have hlb : bs.length ≤ 1099511627776 := by omega
    refine G.nm [0, 22, 23, 24] (h := ?_)
    refine G.loopX (fun j : Nat => ⟨[(0, .row false 1 (bs.map bv)), (22, .sl 0 0 4), (23, .int .i64 4), (24, .int .i64 j)], [some (1, [[.int .i64 4], [.int .i64 5], [.int .i64 6], [.int .i64 7]])], 150⟩) (fun j => j ≤ 4) (fun j => 4 - j) (0) ((by omega)) (by simp) ?_
    intro j hj J hJ
    have hJ4 : j ≤ 4 := hj
    have hcase : j = 4 ∨ j < 4 := by omega
    have hwj : ∀ n : Int, 0 ≤ n → n ≤ 100 → IntKind.i64.wrap n = n := fun n h0 h1 => wrap64 (by omega) (by omega)
    rcases hcase with hcase | hcase
    rotate_left
    obtain ⟨op, hop, hget, hopj⟩ : ∃ op : Int, (op = 4 ∨ op = 5 ∨ op = 6 ∨ op = 7) ∧ rdCells [[A.int .i64 4], [A.int .i64 5], [A.int .i64 6], [A.int .i64 7]] j 0 1 = some [.int .i64 op] ∧ (op = 7 ↔ j = 3) := by
      rcases (show j = 0 ∨ j = 1 ∨ j = 2 ∨ j = 3 by omega) with h | h | h | h <;> subst h
      · exact ⟨4, by omega, rfl, by omega⟩
      · exact ⟨5, by omega, rfl, by omega⟩
      · exact ⟨6, by omega, rfl, by omega⟩
      · exact ⟨7, by omega, rfl, by omega⟩
    have hlt4 : j < 4 := by omega
    have hltz : (j : Int) < 4 := by omega
    have hw1 := hwj ((j : Int) + 1) (by omega) (by omega)
    have hw2 := hwj ((j : Int) + 2) (by omega) (by omega)
    have hw3 := hwj ((j : Int) + 3) (by omega) (by omega)
    have ha0 := e_lawAt bs j hc1 hlb (by omega) (by omega)
    have ha1 := e_lawAt bs ((j : Int) + 1) hc1 hlb (by omega) (by omega)
    have ha2 := e_lawAt bs ((j : Int) + 2) hc1 hlb (by omega) (by omega)
    have ha3 := e_lawAt bs ((j : Int) + 3) hc1 hlb (by omega) (by omega)
    have b0 := atO_ok hc1 (k := (j : Int)) (by omega)
    have b1 := atO_ok hc1 (k := (j : Int) + 1) (by omega)
    have b2 := atO_ok hc1 (k := (j : Int) + 2) (by omega)
    have b3 := atO_ok hc1 (k := (j : Int) + 3) (by omega)
    generalize hA0 : atO bs (j : Int) = A0 at *
    generalize hA1 : atO bs ((j : Int) + 1) = A1 at *
    generalize hA2 : atO bs ((j : Int) + 2) = A2 at *
    generalize hA3 : atO bs ((j : Int) + 3) = A3 at *
    have p1 := mul_c b0 b1
    have p2 := mul_c p1 b2
    have hm1 : IntKind.i64.wrap (A0 * A1) = A0 * A1 := wrap64 (by omega) (by omega)
    have hm2 : IntKind.i64.wrap (A0 * A1 * A2) = A0 * A1 * A2 := wrap64 (by omega) (by omega)
    have hm3 : IntKind.i64.wrap (A0 * A1 * A2 - 700000) = A0 * A1 * A2 - 700000 := wrap64 (by omega) (by omega)
    have hm4 : IntKind.i64.wrap (A3 * 4001) = A3 * 4001 := wrap64 (by omega) (by omega)
    have hm5 : IntKind.i64.wrap (A3 * 4001 - 510000) = A3 * 4001 - 510000 := wrap64 (by omega) (by omega)
    obtain ⟨x, hxe⟩ : ∃ x, wrapT (A0 * A1 * A2 - 700000) = x := ⟨_, rfl⟩
    have hx := wrapT_tok (A0 * A1 * A2 - 700000)
    rw [hxe] at hx
    obtain ⟨y, hye⟩ : ∃ y, A3 * 4001 - 510000 = y := ⟨_, rfl⟩
    rw [hye] at hm5
    have hy : -999999 ≤ y ∧ y ≤ 999999 := by omega
    have hE := tokE hop hx hy
    generalize tokV op x y = v at hE
    have hov := hE.ok
    have k1 := hE.s1
    have k4 := hE.i1
    have hxv : IntKind.i64.wrap (x - v) = x - v := wrap64 (by omega) (by omega)
    clear hwj hA0 hA1 hA2 hA3 p1 p2
    have hs : (op = 7 ∧ y = 0) ∨ (op = 7 ∧ ¬ y = 0) ∨ (¬ op = 7 ∧ v < 0) ∨ (¬ op = 7 ∧ ¬ v < 0) := by omega
    clear hopj
    rcases hs with ⟨h7, hs⟩ | ⟨h7, hs⟩ | ⟨h7, hv⟩ | ⟨h7, hv⟩
    · skip
      have hv := hE.r7 h7
      have k2 := hE.s2b hv
      have k3 := hE.s3b hv
      have k5 := hE.i2b hv
      subst h7
      subst hs
      apply G.seq
      refine G.rg tab_ok ok_lawTokens (hk := ?_)
      apply G.seq
      refine G.iffT (h1 := ?_)
      apply G.skip
      apply G.seq
      apply G.block
      apply G.seq
      refine G.rg tab_ok ok_lawTokens (hk := ?_)
      apply G.seq
      refine G.rg tab_ok ok_lawTokens (hk := ?_)
      apply G.seq
      refine G.rg tab_ok ok_lawTokens (hk := ?_)
      apply G.seq
      refine G.fg [0, 5, 6, 7, 22, 23, 24, 82, 83, 86, 87, 88, 89, 92, 93, 94, 95, 98, 104, 105, 106, 107, 108, 109, 110, 111, 112, 113, 114, 115, 116, 117, 118, 119, 120, 121, 122, 123, 124, 125, 126, 127, 128, 129, 130, 131, 132, 133, 134, 135, 136, 137, 138, 139, 140, 141, 142, 143, 144, 145, 146, 147] (hk := ?_)
      refine G.rg tab_ok ok_lawTokens (hk := ?_)
      apply G.seq
      refine G.rg tab_ok ok_lawTokens (hk := ?_)
      apply G.seq
      refine G.rg tab_ok ok_lawTokens (hk := ?_)
      apply G.seq
      apply G.seq
      refine G.fg [0, 5, 6, 7, 8, 10, 11, 13, 16, 22, 23, 24, 82, 83, 86, 87, 88, 89, 92, 93, 94, 95, 98, 104, 105, 106, 107, 108, 109, 110, 111, 112, 113, 114, 115, 116, 117, 118, 119, 120, 121, 122, 123, 124, 125, 126, 127, 128, 129, 130, 131, 132, 133, 134, 135, 136, 137, 138, 139, 140, 141, 142, 143, 144, 145, 146, 147] (hk := ?_)
      refine G.rg tab_ok ok_lawTokens (hk := ?_)
      refine G.iffF (h2 := ?_)
      apply G.skip
      apply G.seq
      refine G.rg tab_ok ok_lawTokens (hk := ?_)
      apply G.seq
      refine G.fg [0, 5, 7, 11, 17, 22, 23, 24] (hk := ?_)
      refine G.dr mixed tab_ok ok_lawTokens [0, 1, 2, 3, 4, 5, 6, 7, 8, 9, 10, 11, 12, 13, 14, 15, 16, 17, 18, 19, 20, 21, 22, 23, 24, 25, 26, 27, 28, 29, 30, 31, 32, 33, 34, 35, 36, 37, 38, 39, 40, 41, 42, 43, 44] (hk := ?_)
      refine G.iffF (h2 := ?_)
      apply G.skip
      apply G.blk
      refine G.fg [0, 22, 23, 24] (hk := ?_)
      refine G.rg tab_ok ok_lawTokens (hk := ?_)
      refine G.nm [0, 22, 23, 24] (h := ?_)
      exact G.upto (hJ (j + 1) (by omega) (by omega)) (by simp)
    · skip
      have hv := hE.r7 h7
      have hm0 := hE.r8 h7 hs
      have hyb : (y == 0) = false := by simpa using hs
      have k2 := hE.s2b hv
      have k3 := hE.s3b hv
      have k5 := hE.i2b hv
      subst h7
      apply G.seq
      refine G.rg tab_ok ok_lawTokens (hk := ?_)
      apply G.seq
      refine G.iffT (h1 := ?_)
      apply G.skip
      apply G.seq
      apply G.block
      apply G.seq
      refine G.rg tab_ok ok_lawTokens (hk := ?_)
      apply G.seq
      refine G.rg tab_ok ok_lawTokens (hk := ?_)
      apply G.seq
      refine G.rg tab_ok ok_lawTokens (hk := ?_)
      apply G.seq
      refine G.fg [0, 5, 6, 7, 22, 23, 24, 82, 83, 86, 87, 88, 89, 92, 93, 94, 95, 98, 104, 105, 106, 107, 108, 109, 110, 111, 112, 113, 114, 115, 116, 117, 118, 119, 120, 121, 122, 123, 124, 125, 126, 127, 128, 129, 130, 131, 132, 133, 134, 135, 136, 137, 138, 139, 140, 141, 142, 143, 144, 145, 146, 147] (hk := ?_)
      refine G.rg tab_ok ok_lawTokens (hk := ?_)
      apply G.seq
      refine G.rg tab_ok ok_lawTokens (hk := ?_)
      apply G.seq
      refine G.rg tab_ok ok_lawTokens (hk := ?_)
      apply G.seq
      apply G.seq
      refine G.fg [0, 5, 6, 7, 8, 10, 11, 13, 16, 22, 23, 24, 82, 83, 86, 87, 88, 89, 92, 93, 94, 95, 98, 104, 105, 106, 107, 108, 109, 110, 111, 112, 113, 114, 115, 116, 117, 118, 119, 120, 121, 122, 123, 124, 125, 126, 127, 128, 129, 130, 131, 132, 133, 134, 135, 136, 137, 138, 139, 140, 141, 142, 143, 144, 145, 146, 147] (hk := ?_)
      refine G.rg tab_ok ok_lawTokens (hk := ?_)
      refine G.iffF (h2 := ?_)
      apply G.skip
      apply G.seq
      refine G.rg tab_ok ok_lawTokens (hk := ?_)
      apply G.seq
      refine G.fg [0, 5, 7, 11, 17, 22, 23, 24] (hk := ?_)
      refine G.dr mixed tab_ok ok_lawTokens [0, 1, 2, 3, 4, 5, 6, 7, 8, 9, 10, 11, 12, 13, 14, 15, 16, 17, 18, 19, 20, 21, 22, 23, 24, 25, 26, 27, 28, 29, 30, 31, 32, 33, 34, 35, 36, 37, 38, 39, 40, 41, 42, 43, 44] (hk := ?_)
      refine G.iffF (h2 := ?_)
      apply G.skip
      apply G.blk
      refine G.fg [0, 22, 23, 24] (hk := ?_)
      refine G.rg tab_ok ok_lawTokens (hk := ?_)
      refine G.nm [0, 22, 23, 24] (h := ?_)
      exact G.upto (hJ (j + 1) (by omega) (by omega)) (by simp)
    · skip
      have hob : (op == 7) = false := by simpa using h7
      have k2 := hE.s2a hv
      have k3 := hE.s3a hv
      have k5 := hE.i2a hv
      apply G.seq
      refine G.rg tab_ok ok_lawTokens (hk := ?_)
      apply G.seq
      refine G.iffT (h1 := ?_)
      apply G.skip
      apply G.seq
      apply G.block
      apply G.seq
      refine G.rg tab_ok ok_lawTokens (hk := ?_)
      apply G.seq
      refine G.rg tab_ok ok_lawTokens (hk := ?_)
      apply G.seq
      refine G.rg tab_ok ok_lawTokens (hk := ?_)
      apply G.seq
      refine G.fg [0, 5, 6, 7, 22, 23, 24, 82, 83, 86, 87, 88, 89, 92, 93, 94, 95, 98, 104, 105, 106, 107, 108, 109, 110, 111, 112, 113, 114, 115, 116, 117, 118, 119, 120, 121, 122, 123, 124, 125, 126, 127, 128, 129, 130, 131, 132, 133, 134, 135, 136, 137, 138, 139, 140, 141, 142, 143, 144, 145, 146, 147] (hk := ?_)
      refine G.rg tab_ok ok_lawTokens (hk := ?_)
      apply G.seq
      refine G.rg tab_ok ok_lawTokens (hk := ?_)
      apply G.seq
      refine G.rg tab_ok ok_lawTokens (hk := ?_)
      apply G.seq
      apply G.seq
      refine G.fg [0, 5, 6, 7, 8, 10, 11, 13, 16, 22, 23, 24, 82, 83, 86, 87, 88, 89, 92, 93, 94, 95, 98, 104, 105, 106, 107, 108, 109, 110, 111, 112, 113, 114, 115, 116, 117, 118, 119, 120, 121, 122, 123, 124, 125, 126, 127, 128, 129, 130, 131, 132, 133, 134, 135, 136, 137, 138, 139, 140, 141, 142, 143, 144, 145, 146, 147] (hk := ?_)
      refine G.rg tab_ok ok_lawTokens (hk := ?_)
      refine G.iffF (h2 := ?_)
      apply G.skip
      apply G.seq
      refine G.rg tab_ok ok_lawTokens (hk := ?_)
      apply G.seq
      refine G.fg [0, 5, 7, 11, 17, 22, 23, 24] (hk := ?_)
      refine G.dr mixed tab_ok ok_lawTokens [0, 1, 2, 3, 4, 5, 6, 7, 8, 9, 10, 11, 12, 13, 14, 15, 16, 17, 18, 19, 20, 21, 22, 23, 24, 25, 26, 27, 28, 29, 30, 31, 32, 33, 34, 35, 36, 37, 38, 39, 40, 41, 42, 43, 44] (hk := ?_)
      refine G.iffF (h2 := ?_)
      apply G.skip
      apply G.blk
      refine G.fg [0, 22, 23, 24] (hk := ?_)
      refine G.rg tab_ok ok_lawTokens (hk := ?_)
      refine G.nm [0, 22, 23, 24] (h := ?_)
      exact G.upto (hJ (j + 1) (by omega) (by omega)) (by simp)
    · skip
      have hob : (op == 7) = false := by simpa using h7
      have k2 := hE.s2b hv
      have k3 := hE.s3b hv
      have k5 := hE.i2b hv
      apply G.seq
      refine G.rg tab_ok ok_lawTokens (hk := ?_)
      apply G.seq
      refine G.iffT (h1 := ?_)
      apply G.skip
      apply G.seq
      apply G.block
      apply G.seq
      refine G.rg tab_ok ok_lawTokens (hk := ?_)
      apply G.seq
      refine G.rg tab_ok ok_lawTokens (hk := ?_)
      apply G.seq
      refine G.rg tab_ok ok_lawTokens (hk := ?_)
      apply G.seq
      refine G.fg [0, 5, 6, 7, 22, 23, 24, 82, 83, 86, 87, 88, 89, 92, 93, 94, 95, 98, 104, 105, 106, 107, 108, 109, 110, 111, 112, 113, 114, 115, 116, 117, 118, 119, 120, 121, 122, 123, 124, 125, 126, 127, 128, 129, 130, 131, 132, 133, 134, 135, 136, 137, 138, 139, 140, 141, 142, 143, 144, 145, 146, 147] (hk := ?_)
      refine G.rg tab_ok ok_lawTokens (hk := ?_)
      apply G.seq
      refine G.rg tab_ok ok_lawTokens (hk := ?_)
      apply G.seq
      refine G.rg tab_ok ok_lawTokens (hk := ?_)
      apply G.seq
      apply G.seq
      refine G.fg [0, 5, 6, 7, 8, 10, 11, 13, 16, 22, 23, 24, 82, 83, 86, 87, 88, 89, 92, 93, 94, 95, 98, 104, 105, 106, 107, 108, 109, 110, 111, 112, 113, 114, 115, 116, 117, 118, 119, 120, 121, 122, 123, 124, 125, 126, 127, 128, 129, 130, 131, 132, 133, 134, 135, 136, 137, 138, 139, 140, 141, 142, 143, 144, 145, 146, 147] (hk := ?_)
      refine G.rg tab_ok ok_lawTokens (hk := ?_)
      refine G.iffF (h2 := ?_)
      apply G.skip
      apply G.seq
      refine G.rg tab_ok ok_lawTokens (hk := ?_)
      apply G.seq
      refine G.fg [0, 5, 7, 11, 17, 22, 23, 24] (hk := ?_)
      refine G.dr mixed tab_ok ok_lawTokens [0, 1, 2, 3, 4, 5, 6, 7, 8, 9, 10, 11, 12, 13, 14, 15, 16, 17, 18, 19, 20, 21, 22, 23, 24, 25, 26, 27, 28, 29, 30, 31, 32, 33, 34, 35, 36, 37, 38, 39, 40, 41, 42, 43, 44] (hk := ?_)
      refine G.iffF (h2 := ?_)
      apply G.skip
      apply G.blk
      refine G.fg [0, 22, 23, 24] (hk := ?_)
      refine G.rg tab_ok ok_lawTokens (hk := ?_)
      refine G.nm [0, 22, 23, 24] (h := ?_)
      exact G.upto (hJ (j + 1) (by omega) (by omega)) (by simp)
    · skip
      have hn4 : ¬ (j : Int) < 4 := by omega
      clear hwj
      apply G.seq
      refine G.rg tab_ok ok_lawTokens (hk := ?_)
      apply G.seq
      refine G.iffF (h2 := ?_)
      refine G.exit rfl ?_
      apply G.seq
      refine G.rg tab_ok ok_lawTokens (hk := ?_)
      refine G.fin tab_ok (hr := ?_)
      rfl

end Go.Proofs.Ytmijpnghcggdfaa.Ab
