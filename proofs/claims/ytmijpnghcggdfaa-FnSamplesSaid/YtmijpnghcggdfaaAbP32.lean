/- Walks of functions of the program: what each answers, for all arguments that meet its conditions. -/
import Derived.Test.YtmijpnghcggdfaaAbP30
import Derived.Test.YtmijpnghcggdfaaAbAuto2
import Derived.Test.YtmijpnghcggdfaaAbAutoF
namespace Go.Proofs.Ytmijpnghcggdfaa.Ab
open Go
set_option linter.unusedVariables false
set_option linter.unusedSimpArgs false
set_option maxHeartbeats 4000000

theorem ok_implStep : Kn.ok Try.prog (kof [(23, q_implWrap), (98, q_implRest)]) := kof_cons k_implWrap (kof_cons k_implRest ((kof_nil _)))
theorem implStep_mc (h : Heap) (i : Int) (o : Int) (l : List I4) (pc : Int) (rs : List Int) (token : Int) (hc1 : h = [some (2, [[.int .i64 pc, .sl 1 0 rs.length]]), some (1, rs.map iv)]) (hc2 : 0 ≤ pc) (hc3 : pc < (l.length : Int)) (hc4 : l.length ≤ 24) (hc5 : RegOk (l.getD pc.toNat default) rs) : MC Try.prog 69 h [.agg [.int .i64 i, .int .i64 o, .row false 4 (l.map insv)], .ptr 0 0 0, .int .i64 token] (.int .i64 (stepW (l.getD pc.toNat default) rs)) ([some (2, [[.int .i64 (stepPc (l.getD pc.toNat default) pc rs), .sl 1 0 rs.length]]), some (1, (stepRs (l.getD pc.toNat default) rs token).map iv)]) := by
  have e_implWrap := e_implWrap
  have e_implRest := e_implRest
  subst hc1
  obtain ⟨⟨a, b, c, d⟩, hX⟩ : ∃ x, l.getD pc.toNat default = x := ⟨_, rfl⟩
  rw [hX] at hc5
  simp only [hX]
  have hb := hc5.b8
  have ha0 : 0 ≤ b := hc5.a0
  have ha1 : b < (rs.length : Int) := hc5.a1
  have ha2 : b.toNat < rs.length := by omega
  have hpl : pc.toNat < l.length := by omega
  have hget : (List.map iv rs)[b.toNat]? = some [.int .i64 (rs.getD b.toNat default)] := by simp [ha2, iv]
  have hset : ∀ v : Int, (List.map iv rs).set b.toNat [.int .i64 v] = List.map iv (rs.set b.toNat v) := fun v => by rw [List.map_set]; rfl
  have hlset : ∀ v : Int, rs.length ≤ (rs.set b.toNat v).length := fun v => by simp
  have htk : ∀ v : Int, List.take rs.length (List.map iv (rs.set b.toNat v)) = List.map iv (rs.set b.toNat v) := fun v => List.take_of_length_le (by simp)
  have hsame : rs.set b.toNat (rs.getD b.toNat default) = rs := by
    rw [List.getD_eq_getElem?_getD, List.getElem?_eq_getElem ha2]
    exact List.set_getElem_self ha2
  have hsame0 : ∀ v : Int, rs.getD b.toNat default = v → rs.set b.toNat v = rs := fun v h => by rw [← h]; exact hsame
  have hwp : IntKind.i64.wrap (pc + 1) = pc + 1 := wrap64 (by omega) (by omega)
  refine MC.of tab_ok Try.func69 rfl (Nat.le_of_ble_eq_true rfl) fun w0 S0 fs0 φ0 hφ0 hq0 => ?_
  change G _ _ ⟨[(0, .agg [.int .i64 i, .int .i64 o, .row false 4 (l.map insv)]), (1, .ptr 0 0 0), (2, .int .i64 token)], _, 156⟩
  apply G.seq
  refine G.rg tab_ok ok_implStep (hk := ?_)
  apply G.seq
  apply G.joinR
  · intro hk
    refine G.drawL (c := ⟨Try.prog, tab, _, _, _, _, _⟩) mixed tab_ok ok_implStep 15 ?_ rfl
    refine AnyL.gg (n := 4) 11 [0, 1, 2, 3, 4, 5, 6, 7, 8, 9, 10] (h := ?_)
    refine AnyL.fk2 (n := 3) 11 12 (k1 := ?_) (k2 := ?_)
    · skip
      refine AnyL.gg (n := 0) 3 [12, 13, 14] (h := ?_)
      exact AnyL.lf [1, 2, 7, 8, 54, 55, 56, 57, 58, 59, 60, 61, 62, 63, 64, 65, 66, 67, 68, 69, 72, 73, 74, 75, 76, 77, 78, 79, 80, 81, 82, 83, 84, 85, 86, 87, 90, 91, 92, 93, 94, 95, 96, 97, 98, 99, 100, 101, 102, 103, 104, 105, 108, 109, 110, 111, 112, 113, 114, 115, 116, 117, 118, 119, 120, 121, 122] (hk := hk)
    · skip
      refine AnyL.fk2 (n := 2) 11 13 (k1 := ?_) (k2 := ?_)
      · skip
        refine AnyL.gg (n := 0) 2 [13, 14] (h := ?_)
        exact AnyL.lf [1, 2, 7, 8, 54, 55, 56, 57, 58, 59, 60, 61, 62, 63, 64, 65, 66, 67, 68, 69, 72, 73, 74, 75, 76, 77, 78, 79, 80, 81, 82, 83, 84, 85, 86, 87, 90, 91, 92, 93, 94, 95, 96, 97, 98, 99, 100, 101, 102, 103, 104, 105, 108, 109, 110, 111, 112, 113, 114, 115, 116, 117, 118, 119, 120, 121, 122] (hk := hk)
      · skip
        refine AnyL.gg (n := 0) 2 [11, 14] (h := ?_)
        exact AnyL.lf [1, 2, 7, 8, 54, 55, 56, 57, 58, 59, 60, 61, 62, 63, 64, 65, 66, 67, 68, 69, 72, 73, 74, 75, 76, 77, 78, 79, 80, 81, 82, 83, 84, 85, 86, 87, 90, 91, 92, 93, 94, 95, 96, 97, 98, 99, 100, 101, 102, 103, 104, 105, 108, 109, 110, 111, 112, 113, 114, 115, 116, 117, 118, 119, 120, 121, 122] (hk := hk)
  apply G.seq
  refine G.rg tab_ok ok_implStep (hk := ?_)
  apply G.seq
  apply G.seq
  refine G.rg tab_ok ok_implStep (hk := ?_)
  apply G.block
  apply G.seq
  refine G.rg tab_ok ok_implStep (hk := ?_)
  refine G.fg [1, 2, 7, 8, 29, 30, 54, 55, 56, 57, 58, 59, 60, 61, 62, 63, 64, 65, 66, 67, 68, 69, 72, 73, 74, 75, 76, 77, 78, 79, 80, 81, 82, 83, 84, 85, 86, 87, 90, 91, 92, 93, 94, 95, 96, 97, 98, 99, 100, 101, 102, 103, 104, 105, 108, 109, 110, 111, 112, 113, 114, 115, 116, 117, 118, 119, 120, 121, 122] (hk := ?_)
  refine G.iff (h1 := fun h1 => ?_) (h2 := fun h1 => ?_)
  · try simp only [decide_eq_true_eq, decide_eq_false_iff_not, Bool.and_eq_true, Bool.and_eq_false_imp, Bool.or_eq_true, Bool.or_eq_false_iff, Bool.not_eq_true', Bool.not_eq_false', bne_iff_ne, beq_iff_eq, bne_eq_false_iff_eq, beq_eq_false_iff_ne, ne_eq, Int.ofNat_lt, Int.not_lt, Int.not_le, Int.ofNat_le, Nat.not_lt, Nat.not_le, gt_iff_lt, ge_iff_le] at h1
    refine G.rg tab_ok ok_implStep (hk := ?_)
    apply G.blk
    apply G.seq
    refine G.rg tab_ok ok_implStep (hk := ?_)
    refine G.finM (junk := [some (3, [[.int .i64 i, .int .i64 o, .row false 4 (l.map insv)]]), some (4, [[.int .i64 a, .int .i64 b, .int .i64 c, .int .i64 d]])]) tab_ok (hr := ?_) (hh := ?_) (hq := ?_) (hl := ?_)
    · first | rfl | (simp only [oneOrTup, stepW, rg, if_true, if_false, Int.reduceEq, *]; done) | (simp only [oneOrTup, stepW, rg, if_true, if_false, Int.reduceEq, *]; rfl)
    · simp only [List.cons_append, List.nil_append, stepPc, stepRs, valR, rg, if_true, if_false, Int.reduceEq, false_and, true_and, and_false, and_true, or_self, or_false, false_or, or_true, true_or, not_false_eq_true, *]
      all_goals (rw [if_neg (by omega)])
    · show (refLL _ _ && (refLL _ _ && true)) = true
      rw [pureLL_ref (pureLL_iv _)]
      rfl
    · rw [hφ0]; exact Nat.le_refl _
  · try simp only [decide_eq_true_eq, decide_eq_false_iff_not, Bool.and_eq_true, Bool.and_eq_false_imp, Bool.or_eq_true, Bool.or_eq_false_iff, Bool.not_eq_true', Bool.not_eq_false', bne_iff_ne, beq_iff_eq, bne_eq_false_iff_eq, beq_eq_false_iff_ne, ne_eq, Int.ofNat_lt, Int.not_lt, Int.not_le, Int.ofNat_le, Nat.not_lt, Nat.not_le, gt_iff_lt, ge_iff_le] at h1
    apply G.seq
    refine G.rg tab_ok ok_implStep (hk := ?_)
    refine G.iff (h1 := fun h2 => ?_) (h2 := fun h2 => ?_)
    · try simp only [decide_eq_true_eq, decide_eq_false_iff_not, Bool.and_eq_true, Bool.and_eq_false_imp, Bool.or_eq_true, Bool.or_eq_false_iff, Bool.not_eq_true', Bool.not_eq_false', bne_iff_ne, beq_iff_eq, bne_eq_false_iff_eq, beq_eq_false_iff_ne, ne_eq, Int.ofNat_lt, Int.not_lt, Int.not_le, Int.ofNat_le, Nat.not_lt, Nat.not_le, gt_iff_lt, ge_iff_le] at h2
      apply G.seq
      refine G.rg tab_ok ok_implStep (hk := ?_)
      refine G.finM (junk := [some (3, [[.int .i64 i, .int .i64 o, .row false 4 (l.map insv)]]), some (4, [[.int .i64 a, .int .i64 b, .int .i64 c, .int .i64 d]])]) tab_ok (hr := ?_) (hh := ?_) (hq := ?_) (hl := ?_)
      · first | rfl | (simp only [oneOrTup, stepW, rg, if_true, if_false, Int.reduceEq, *]; done) | (simp only [oneOrTup, stepW, rg, if_true, if_false, Int.reduceEq, *]; rfl)
      · simp only [List.cons_append, List.nil_append, stepPc, stepRs, valR, rg, if_true, if_false, Int.reduceEq, false_and, true_and, and_false, and_true, or_self, or_false, false_or, or_true, true_or, not_false_eq_true, *]
        all_goals (rw [if_neg (by omega)])
      · show (refLL _ _ && (refLL _ _ && true)) = true
        rw [pureLL_ref (pureLL_iv _)]
        rfl
      · rw [hφ0]; exact Nat.le_refl _
    · try simp only [decide_eq_true_eq, decide_eq_false_iff_not, Bool.and_eq_true, Bool.and_eq_false_imp, Bool.or_eq_true, Bool.or_eq_false_iff, Bool.not_eq_true', Bool.not_eq_false', bne_iff_ne, beq_iff_eq, bne_eq_false_iff_eq, beq_eq_false_iff_ne, ne_eq, Int.ofNat_lt, Int.not_lt, Int.not_le, Int.ofNat_le, Nat.not_lt, Nat.not_le, gt_iff_lt, ge_iff_le] at h2
      apply G.seq
      refine G.rg tab_ok ok_implStep (hk := ?_)
      refine G.iff (h1 := fun h3 => ?_) (h2 := fun h3 => ?_)
      · try simp only [decide_eq_true_eq, decide_eq_false_iff_not, Bool.and_eq_true, Bool.and_eq_false_imp, Bool.or_eq_true, Bool.or_eq_false_iff, Bool.not_eq_true', Bool.not_eq_false', bne_iff_ne, beq_iff_eq, bne_eq_false_iff_eq, beq_eq_false_iff_ne, ne_eq, Int.ofNat_lt, Int.not_lt, Int.not_le, Int.ofNat_le, Nat.not_lt, Nat.not_le, gt_iff_lt, ge_iff_le] at h3
        refine G.rg tab_ok ok_implStep (hk := ?_)
        apply G.blk
        apply G.seq
        refine G.rg tab_ok ok_implStep (hk := ?_)
        refine G.finM (junk := [some (3, [[.int .i64 i, .int .i64 o, .row false 4 (l.map insv)]]), some (4, [[.int .i64 a, .int .i64 b, .int .i64 c, .int .i64 d]])]) tab_ok (hr := ?_) (hh := ?_) (hq := ?_) (hl := ?_)
        · first | rfl | (simp only [oneOrTup, stepW, rg, if_true, if_false, Int.reduceEq, *]; done) | (simp only [oneOrTup, stepW, rg, if_true, if_false, Int.reduceEq, *]; rfl)
        · simp only [List.cons_append, List.nil_append, stepPc, stepRs, valR, rg, if_true, if_false, Int.reduceEq, false_and, true_and, and_false, and_true, or_self, or_false, false_or, or_true, true_or, not_false_eq_true, *]
          all_goals (rw [if_neg (by omega)])
        · show (refLL _ _ && (refLL _ _ && true)) = true
          rw [pureLL_ref (pureLL_iv _)]
          rfl
        · rw [hφ0]; exact Nat.le_refl _
      · try simp only [decide_eq_true_eq, decide_eq_false_iff_not, Bool.and_eq_true, Bool.and_eq_false_imp, Bool.or_eq_true, Bool.or_eq_false_iff, Bool.not_eq_true', Bool.not_eq_false', bne_iff_ne, beq_iff_eq, bne_eq_false_iff_eq, beq_eq_false_iff_ne, ne_eq, Int.ofNat_lt, Int.not_lt, Int.not_le, Int.ofNat_le, Nat.not_lt, Nat.not_le, gt_iff_lt, ge_iff_le] at h3
        apply G.seq
        refine G.rg tab_ok ok_implStep (hk := ?_)
        refine G.iff (h1 := fun h4 => ?_) (h2 := fun h4 => ?_)
        · try simp only [decide_eq_true_eq, decide_eq_false_iff_not, Bool.and_eq_true, Bool.and_eq_false_imp, Bool.or_eq_true, Bool.or_eq_false_iff, Bool.not_eq_true', Bool.not_eq_false', bne_iff_ne, beq_iff_eq, bne_eq_false_iff_eq, beq_eq_false_iff_ne, ne_eq, Int.ofNat_lt, Int.not_lt, Int.not_le, Int.ofNat_le, Nat.not_lt, Nat.not_le, gt_iff_lt, ge_iff_le] at h4
          obtain ⟨q0, q1, q2, q3⟩ := hc5.b0 (by simp only; omega)
          simp only at q0 q1 q2 q3
          have q4 : c.toNat < rs.length := by omega
          have q5 : d.toNat < rs.length := by omega
          have tb : -999999 ≤ rs.getD c.toNat default ∧ rs.getD c.toNat default ≤ 999999 := hc5.rg q0 q1
          have tc : -999999 ≤ rs.getD d.toNat default ∧ rs.getD d.toNat default ≤ 999999 := hc5.rg q2 q3
          have hw : IntKind.i64.wrap (rs.getD c.toNat default + rs.getD d.toNat default) = rs.getD c.toNat default + rs.getD d.toNat default := wrap64 (by omega) (by omega)
          refine G.dr mixed tab_ok ok_implStep [0, 1, 2, 3, 4, 5, 6, 7, 8, 9, 10, 11, 12, 13, 14, 15, 16] (hk := ?_)
          apply G.blk
          apply G.seq
          refine G.rg tab_ok ok_implStep (hk := ?_)
          refine G.finM (junk := [some (3, [[.int .i64 i, .int .i64 o, .row false 4 (l.map insv)]]), some (4, [[.int .i64 a, .int .i64 b, .int .i64 c, .int .i64 d]])]) tab_ok (hr := ?_) (hh := ?_) (hq := ?_) (hl := ?_)
          · first | rfl | (simp only [oneOrTup, stepW, rg, if_true, if_false, Int.reduceEq, *]; done) | (simp only [oneOrTup, stepW, rg, if_true, if_false, Int.reduceEq, *]; rfl)
          · simp only [List.cons_append, List.nil_append, stepPc, stepRs, valR, rg, if_true, if_false, Int.reduceEq, false_and, true_and, and_false, and_true, or_self, or_false, false_or, or_true, true_or, not_false_eq_true, *]
            all_goals (rw [if_neg (by omega)])
          · show (refLL _ _ && (refLL _ _ && true)) = true
            rw [pureLL_ref (pureLL_iv _)]
            rfl
          · rw [hφ0]; exact Nat.le_refl _
        · try simp only [decide_eq_true_eq, decide_eq_false_iff_not, Bool.and_eq_true, Bool.and_eq_false_imp, Bool.or_eq_true, Bool.or_eq_false_iff, Bool.not_eq_true', Bool.not_eq_false', bne_iff_ne, beq_iff_eq, bne_eq_false_iff_eq, beq_eq_false_iff_ne, ne_eq, Int.ofNat_lt, Int.not_lt, Int.not_le, Int.ofNat_le, Nat.not_lt, Nat.not_le, gt_iff_lt, ge_iff_le] at h4
          apply G.seq
          refine G.rg tab_ok ok_implStep (hk := ?_)
          refine G.iff (h1 := fun h5 => ?_) (h2 := fun h5 => ?_)
          · try simp only [decide_eq_true_eq, decide_eq_false_iff_not, Bool.and_eq_true, Bool.and_eq_false_imp, Bool.or_eq_true, Bool.or_eq_false_iff, Bool.not_eq_true', Bool.not_eq_false', bne_iff_ne, beq_iff_eq, bne_eq_false_iff_eq, beq_eq_false_iff_ne, ne_eq, Int.ofNat_lt, Int.not_lt, Int.not_le, Int.ofNat_le, Nat.not_lt, Nat.not_le, gt_iff_lt, ge_iff_le] at h5
            obtain ⟨q0, q1, q2, q3⟩ := hc5.b0 (by simp only; omega)
            simp only at q0 q1 q2 q3
            have q4 : c.toNat < rs.length := by omega
            have q5 : d.toNat < rs.length := by omega
            have tb : -999999 ≤ rs.getD c.toNat default ∧ rs.getD c.toNat default ≤ 999999 := hc5.rg q0 q1
            have tc : -999999 ≤ rs.getD d.toNat default ∧ rs.getD d.toNat default ≤ 999999 := hc5.rg q2 q3
            have hw : IntKind.i64.wrap (rs.getD c.toNat default - rs.getD d.toNat default) = rs.getD c.toNat default - rs.getD d.toNat default := wrap64 (by omega) (by omega)
            refine G.dr mixed tab_ok ok_implStep [0, 1, 2, 3, 4, 5, 6, 7, 8, 9, 10, 11, 12, 13, 14, 15, 16] (hk := ?_)
            apply G.blk
            apply G.seq
            refine G.rg tab_ok ok_implStep (hk := ?_)
            refine G.finM (junk := [some (3, [[.int .i64 i, .int .i64 o, .row false 4 (l.map insv)]]), some (4, [[.int .i64 a, .int .i64 b, .int .i64 c, .int .i64 d]])]) tab_ok (hr := ?_) (hh := ?_) (hq := ?_) (hl := ?_)
            · first | rfl | (simp only [oneOrTup, stepW, rg, if_true, if_false, Int.reduceEq, *]; done) | (simp only [oneOrTup, stepW, rg, if_true, if_false, Int.reduceEq, *]; rfl)
            · simp only [List.cons_append, List.nil_append, stepPc, stepRs, valR, rg, if_true, if_false, Int.reduceEq, false_and, true_and, and_false, and_true, or_self, or_false, false_or, or_true, true_or, not_false_eq_true, *]
              all_goals (rw [if_neg (by omega)])
            · show (refLL _ _ && (refLL _ _ && true)) = true
              rw [pureLL_ref (pureLL_iv _)]
              rfl
            · rw [hφ0]; exact Nat.le_refl _
          · try simp only [decide_eq_true_eq, decide_eq_false_iff_not, Bool.and_eq_true, Bool.and_eq_false_imp, Bool.or_eq_true, Bool.or_eq_false_iff, Bool.not_eq_true', Bool.not_eq_false', bne_iff_ne, beq_iff_eq, bne_eq_false_iff_eq, beq_eq_false_iff_ne, ne_eq, Int.ofNat_lt, Int.not_lt, Int.not_le, Int.ofNat_le, Nat.not_lt, Nat.not_le, gt_iff_lt, ge_iff_le] at h5
            apply G.seq
            refine G.rg tab_ok ok_implStep (hk := ?_)
            refine G.fg [1, 7, 8, 29, 88, 90, 91, 92, 93, 94, 95, 96, 97, 98, 99, 100, 101, 102, 103, 104, 105, 108, 109, 110, 111, 112, 113, 114, 115, 116, 117, 118, 119, 120, 121, 122] (hk := ?_)
            refine G.iff (h1 := fun h6 => ?_) (h2 := fun h6 => ?_)
            · try simp only [decide_eq_true_eq, decide_eq_false_iff_not, Bool.and_eq_true, Bool.and_eq_false_imp, Bool.or_eq_true, Bool.or_eq_false_iff, Bool.not_eq_true', Bool.not_eq_false', bne_iff_ne, beq_iff_eq, bne_eq_false_iff_eq, beq_eq_false_iff_ne, ne_eq, Int.ofNat_lt, Int.not_lt, Int.not_le, Int.ofNat_le, Nat.not_lt, Nat.not_le, gt_iff_lt, ge_iff_le] at h6
              obtain ⟨q0, q1, q2, q3⟩ := hc5.b0 (by simp only; omega)
              simp only at q0 q1 q2 q3
              have q4 : c.toNat < rs.length := by omega
              have q5 : d.toNat < rs.length := by omega
              have tb : -999999 ≤ rs.getD c.toNat default ∧ rs.getD c.toNat default ≤ 999999 := hc5.rg q0 q1
              have tc : -999999 ≤ rs.getD d.toNat default ∧ rs.getD d.toNat default ≤ 999999 := hc5.rg q2 q3
              have hmul : -999998000001 ≤ rs.getD c.toNat default * rs.getD d.toNat default ∧ rs.getD c.toNat default * rs.getD d.toNat default ≤ 999998000001 := mul_tok tb tc
              have hw : IntKind.i64.wrap (rs.getD c.toNat default * rs.getD d.toNat default) = rs.getD c.toNat default * rs.getD d.toNat default := wrap64 (by omega) (by omega)
              refine G.dr mixed tab_ok ok_implStep [0, 1, 2, 3, 4, 5, 6, 7, 8, 9, 10, 11, 12, 13, 14, 15, 16] (hk := ?_)
              apply G.blk
              apply G.seq
              refine G.rg tab_ok ok_implStep (hk := ?_)
              refine G.finM (junk := [some (3, [[.int .i64 i, .int .i64 o, .row false 4 (l.map insv)]]), some (4, [[.int .i64 a, .int .i64 b, .int .i64 c, .int .i64 d]])]) tab_ok (hr := ?_) (hh := ?_) (hq := ?_) (hl := ?_)
              · first | rfl | (simp only [oneOrTup, stepW, rg, if_true, if_false, Int.reduceEq, *]; done) | (simp only [oneOrTup, stepW, rg, if_true, if_false, Int.reduceEq, *]; rfl)
              · simp only [List.cons_append, List.nil_append, stepPc, stepRs, valR, rg, if_true, if_false, Int.reduceEq, false_and, true_and, and_false, and_true, or_self, or_false, false_or, or_true, true_or, not_false_eq_true, *]
                all_goals (rw [if_neg (by omega)])
              · show (refLL _ _ && (refLL _ _ && true)) = true
                rw [pureLL_ref (pureLL_iv _)]
                rfl
              · rw [hφ0]; exact Nat.le_refl _
            · try simp only [decide_eq_true_eq, decide_eq_false_iff_not, Bool.and_eq_true, Bool.and_eq_false_imp, Bool.or_eq_true, Bool.or_eq_false_iff, Bool.not_eq_true', Bool.not_eq_false', bne_iff_ne, beq_iff_eq, bne_eq_false_iff_eq, beq_eq_false_iff_ne, ne_eq, Int.ofNat_lt, Int.not_lt, Int.not_le, Int.ofNat_le, Nat.not_lt, Nat.not_le, gt_iff_lt, ge_iff_le] at h6
              apply G.seq
              refine G.rg tab_ok ok_implStep (hk := ?_)
              refine G.iff (h1 := fun h7 => ?_) (h2 := fun h7 => ?_)
              · try simp only [decide_eq_true_eq, decide_eq_false_iff_not, Bool.and_eq_true, Bool.and_eq_false_imp, Bool.or_eq_true, Bool.or_eq_false_iff, Bool.not_eq_true', Bool.not_eq_false', bne_iff_ne, beq_iff_eq, bne_eq_false_iff_eq, beq_eq_false_iff_ne, ne_eq, Int.ofNat_lt, Int.not_lt, Int.not_le, Int.ofNat_le, Nat.not_lt, Nat.not_le, gt_iff_lt, ge_iff_le] at h7
                obtain ⟨q0, q1, q2, q3⟩ := hc5.b0 (by simp only; omega)
                simp only at q0 q1 q2 q3
                have q4 : c.toNat < rs.length := by omega
                have q5 : d.toNat < rs.length := by omega
                have tb : -999999 ≤ rs.getD c.toNat default ∧ rs.getD c.toNat default ≤ 999999 := hc5.rg q0 q1
                have tc : -999999 ≤ rs.getD d.toNat default ∧ rs.getD d.toNat default ≤ 999999 := hc5.rg q2 q3
                refine G.dr mixed tab_ok ok_implStep [0, 1, 2, 3, 4, 5, 6, 7, 8, 9, 10, 11, 12, 13, 14, 15] (hk := ?_)
                apply G.blk
                apply G.seq
                refine G.rg tab_ok ok_implStep (hk := ?_)
                refine G.finM (junk := [some (3, [[.int .i64 i, .int .i64 o, .row false 4 (l.map insv)]]), some (4, [[.int .i64 a, .int .i64 b, .int .i64 c, .int .i64 d]])]) tab_ok (hr := ?_) (hh := ?_) (hq := ?_) (hl := ?_)
                · first | rfl | (simp only [oneOrTup, stepW, rg, if_true, if_false, Int.reduceEq, *]; done) | (simp only [oneOrTup, stepW, rg, if_true, if_false, Int.reduceEq, *]; rfl)
                · simp only [List.cons_append, List.nil_append, stepPc, stepRs, valR, rg, if_true, if_false, Int.reduceEq, false_and, true_and, and_false, and_true, or_self, or_false, false_or, or_true, true_or, not_false_eq_true, *]
                  all_goals (rw [if_neg (by omega)])
                · show (refLL _ _ && (refLL _ _ && true)) = true
                  rw [pureLL_ref (pureLL_iv _)]
                  rfl
                · rw [hφ0]; exact Nat.le_refl _
              · try simp only [decide_eq_true_eq, decide_eq_false_iff_not, Bool.and_eq_true, Bool.and_eq_false_imp, Bool.or_eq_true, Bool.or_eq_false_iff, Bool.not_eq_true', Bool.not_eq_false', bne_iff_ne, beq_iff_eq, bne_eq_false_iff_eq, beq_eq_false_iff_ne, ne_eq, Int.ofNat_lt, Int.not_lt, Int.not_le, Int.ofNat_le, Nat.not_lt, Nat.not_le, gt_iff_lt, ge_iff_le] at h7
                apply G.seq
                refine G.rg tab_ok ok_implStep (hk := ?_)
                refine G.iff (h1 := fun h8 => ?_) (h2 := fun h8 => ?_)
                · try simp only [decide_eq_true_eq, decide_eq_false_iff_not, Bool.and_eq_true, Bool.and_eq_false_imp, Bool.or_eq_true, Bool.or_eq_false_iff, Bool.not_eq_true', Bool.not_eq_false', bne_iff_ne, beq_iff_eq, bne_eq_false_iff_eq, beq_eq_false_iff_ne, ne_eq, Int.ofNat_lt, Int.not_lt, Int.not_le, Int.ofNat_le, Nat.not_lt, Nat.not_le, gt_iff_lt, ge_iff_le] at h8
                  refine G.rg tab_ok ok_implStep (hk := ?_)
                  apply G.blk
                  apply G.seq
                  refine G.rg tab_ok ok_implStep (hk := ?_)
                  refine G.finM (junk := [some (3, [[.int .i64 i, .int .i64 o, .row false 4 (l.map insv)]]), some (4, [[.int .i64 a, .int .i64 b, .int .i64 c, .int .i64 d]])]) tab_ok (hr := ?_) (hh := ?_) (hq := ?_) (hl := ?_)
                  · first | rfl | (simp only [oneOrTup, stepW, rg, if_true, if_false, Int.reduceEq, *]; done) | (simp only [oneOrTup, stepW, rg, if_true, if_false, Int.reduceEq, *]; rfl)
                  · simp only [List.cons_append, List.nil_append, stepPc, stepRs, valR, rg, if_true, if_false, Int.reduceEq, false_and, true_and, and_false, and_true, or_self, or_false, false_or, or_true, true_or, not_false_eq_true, *]
                    all_goals (rw [if_neg (by omega)])
                  · show (refLL _ _ && (refLL _ _ && true)) = true
                    rw [pureLL_ref (pureLL_iv _)]
                    rfl
                  · rw [hφ0]; exact Nat.le_refl _
                · try simp only [decide_eq_true_eq, decide_eq_false_iff_not, Bool.and_eq_true, Bool.and_eq_false_imp, Bool.or_eq_true, Bool.or_eq_false_iff, Bool.not_eq_true', Bool.not_eq_false', bne_iff_ne, beq_iff_eq, bne_eq_false_iff_eq, beq_eq_false_iff_ne, ne_eq, Int.ofNat_lt, Int.not_lt, Int.not_le, Int.ofNat_le, Nat.not_lt, Nat.not_le, gt_iff_lt, ge_iff_le] at h8
                  apply G.seq
                  refine G.rg tab_ok ok_implStep (hk := ?_)
                  refine G.iff (h1 := fun h9 => ?_) (h2 := fun h9 => ?_)
                  · try simp only [decide_eq_true_eq, decide_eq_false_iff_not, Bool.and_eq_true, Bool.and_eq_false_imp, Bool.or_eq_true, Bool.or_eq_false_iff, Bool.not_eq_true', Bool.not_eq_false', bne_iff_ne, beq_iff_eq, bne_eq_false_iff_eq, beq_eq_false_iff_ne, ne_eq, Int.ofNat_lt, Int.not_lt, Int.not_le, Int.ofNat_le, Nat.not_lt, Nat.not_le, gt_iff_lt, ge_iff_le] at h9
                    apply G.seq
                    refine G.rg tab_ok ok_implStep (hk := ?_)
                    refine G.fg [1, 7, 137] (hk := ?_)
                    refine G.iff (h1 := fun h10 => ?_) (h2 := fun h10 => ?_)
                    · try simp only [decide_eq_true_eq, decide_eq_false_iff_not, Bool.and_eq_true, Bool.and_eq_false_imp, Bool.or_eq_true, Bool.or_eq_false_iff, Bool.not_eq_true', Bool.not_eq_false', bne_iff_ne, beq_iff_eq, bne_eq_false_iff_eq, beq_eq_false_iff_ne, ne_eq, Int.ofNat_lt, Int.not_lt, Int.not_le, Int.ofNat_le, Nat.not_lt, Nat.not_le, gt_iff_lt, ge_iff_le] at h10
                      refine G.rg tab_ok ok_implStep (hk := ?_)
                      apply G.blk
                      apply G.seq
                      refine G.rg tab_ok ok_implStep (hk := ?_)
                      refine G.finM (junk := [some (3, [[.int .i64 i, .int .i64 o, .row false 4 (l.map insv)]]), some (4, [[.int .i64 a, .int .i64 b, .int .i64 c, .int .i64 d]])]) tab_ok (hr := ?_) (hh := ?_) (hq := ?_) (hl := ?_)
                      · first | rfl | (simp only [oneOrTup, stepW, rg, if_true, if_false, Int.reduceEq, *]; done) | (simp only [oneOrTup, stepW, rg, if_true, if_false, Int.reduceEq, *]; rfl)
                      · simp only [List.cons_append, List.nil_append, stepPc, stepRs, valR, rg, if_true, if_false, Int.reduceEq, false_and, true_and, and_false, and_true, or_self, or_false, false_or, or_true, true_or, not_false_eq_true, *]
                        all_goals (rw [if_neg (by omega)])
                      · show (refLL _ _ && (refLL _ _ && true)) = true
                        rw [pureLL_ref (pureLL_iv _)]
                        rfl
                      · rw [hφ0]; exact Nat.le_refl _
                    · try simp only [decide_eq_true_eq, decide_eq_false_iff_not, Bool.and_eq_true, Bool.and_eq_false_imp, Bool.or_eq_true, Bool.or_eq_false_iff, Bool.not_eq_true', Bool.not_eq_false', bne_iff_ne, beq_iff_eq, bne_eq_false_iff_eq, beq_eq_false_iff_ne, ne_eq, Int.ofNat_lt, Int.not_lt, Int.not_le, Int.ofNat_le, Nat.not_lt, Nat.not_le, gt_iff_lt, ge_iff_le] at h10
                      apply G.skip
                      apply G.blk
                      apply G.seq
                      refine G.rg tab_ok ok_implStep (hk := ?_)
                      refine G.finM (junk := [some (3, [[.int .i64 i, .int .i64 o, .row false 4 (l.map insv)]]), some (4, [[.int .i64 a, .int .i64 b, .int .i64 c, .int .i64 d]])]) tab_ok (hr := ?_) (hh := ?_) (hq := ?_) (hl := ?_)
                      · first | rfl | (simp only [oneOrTup, stepW, rg, if_true, if_false, Int.reduceEq, *]; done) | (simp only [oneOrTup, stepW, rg, if_true, if_false, Int.reduceEq, *]; rfl)
                      · simp only [List.cons_append, List.nil_append, stepPc, stepRs, valR, rg, if_true, if_false, Int.reduceEq, false_and, true_and, and_false, and_true, or_self, or_false, false_or, or_true, true_or, not_false_eq_true, *]
                        all_goals (rw [if_neg (by omega)])
                      · show (refLL _ _ && (refLL _ _ && true)) = true
                        rw [pureLL_ref (pureLL_iv _)]
                        rfl
                      · rw [hφ0]; exact Nat.le_refl _
                  · try simp only [decide_eq_true_eq, decide_eq_false_iff_not, Bool.and_eq_true, Bool.and_eq_false_imp, Bool.or_eq_true, Bool.or_eq_false_iff, Bool.not_eq_true', Bool.not_eq_false', bne_iff_ne, beq_iff_eq, bne_eq_false_iff_eq, beq_eq_false_iff_ne, ne_eq, Int.ofNat_lt, Int.not_lt, Int.not_le, Int.ofNat_le, Nat.not_lt, Nat.not_le, gt_iff_lt, ge_iff_le] at h9
                    apply G.seq
                    refine G.rg tab_ok ok_implStep (hk := ?_)
                    refine G.iff (h1 := fun h11 => ?_) (h2 := fun h11 => ?_)
                    · try simp only [decide_eq_true_eq, decide_eq_false_iff_not, Bool.and_eq_true, Bool.and_eq_false_imp, Bool.or_eq_true, Bool.or_eq_false_iff, Bool.not_eq_true', Bool.not_eq_false', bne_iff_ne, beq_iff_eq, bne_eq_false_iff_eq, beq_eq_false_iff_ne, ne_eq, Int.ofNat_lt, Int.not_lt, Int.not_le, Int.ofNat_le, Nat.not_lt, Nat.not_le, gt_iff_lt, ge_iff_le] at h11
                      apply G.seq
                      refine G.rg tab_ok ok_implStep (hk := ?_)
                      refine G.fg [1, 7, 150] (hk := ?_)
                      refine G.iff (h1 := fun h12 => ?_) (h2 := fun h12 => ?_)
                      · try simp only [decide_eq_true_eq, decide_eq_false_iff_not, Bool.and_eq_true, Bool.and_eq_false_imp, Bool.or_eq_true, Bool.or_eq_false_iff, Bool.not_eq_true', Bool.not_eq_false', bne_iff_ne, beq_iff_eq, bne_eq_false_iff_eq, beq_eq_false_iff_ne, ne_eq, Int.ofNat_lt, Int.not_lt, Int.not_le, Int.ofNat_le, Nat.not_lt, Nat.not_le, gt_iff_lt, ge_iff_le] at h12
                        refine G.rg tab_ok ok_implStep (hk := ?_)
                        apply G.blk
                        apply G.seq
                        refine G.rg tab_ok ok_implStep (hk := ?_)
                        refine G.finM (junk := [some (3, [[.int .i64 i, .int .i64 o, .row false 4 (l.map insv)]]), some (4, [[.int .i64 a, .int .i64 b, .int .i64 c, .int .i64 d]])]) tab_ok (hr := ?_) (hh := ?_) (hq := ?_) (hl := ?_)
                        · first | rfl | (simp only [oneOrTup, stepW, rg, if_true, if_false, Int.reduceEq, *]; done) | (simp only [oneOrTup, stepW, rg, if_true, if_false, Int.reduceEq, *]; rfl)
                        · simp only [List.cons_append, List.nil_append, stepPc, stepRs, valR, rg, if_true, if_false, Int.reduceEq, false_and, true_and, and_false, and_true, or_self, or_false, false_or, or_true, true_or, not_false_eq_true, *]
                          all_goals (rw [if_neg (by omega)])
                        · show (refLL _ _ && (refLL _ _ && true)) = true
                          rw [pureLL_ref (pureLL_iv _)]
                          rfl
                        · rw [hφ0]; exact Nat.le_refl _
                      · try simp only [decide_eq_true_eq, decide_eq_false_iff_not, Bool.and_eq_true, Bool.and_eq_false_imp, Bool.or_eq_true, Bool.or_eq_false_iff, Bool.not_eq_true', Bool.not_eq_false', bne_iff_ne, beq_iff_eq, bne_eq_false_iff_eq, beq_eq_false_iff_ne, ne_eq, Int.ofNat_lt, Int.not_lt, Int.not_le, Int.ofNat_le, Nat.not_lt, Nat.not_le, gt_iff_lt, ge_iff_le] at h12
                        apply G.skip
                        apply G.blk
                        apply G.seq
                        refine G.rg tab_ok ok_implStep (hk := ?_)
                        refine G.finM (junk := [some (3, [[.int .i64 i, .int .i64 o, .row false 4 (l.map insv)]]), some (4, [[.int .i64 a, .int .i64 b, .int .i64 c, .int .i64 d]])]) tab_ok (hr := ?_) (hh := ?_) (hq := ?_) (hl := ?_)
                        · first | rfl | (simp only [oneOrTup, stepW, rg, if_true, if_false, Int.reduceEq, *]; done) | (simp only [oneOrTup, stepW, rg, if_true, if_false, Int.reduceEq, *]; rfl)
                        · simp only [List.cons_append, List.nil_append, stepPc, stepRs, valR, rg, if_true, if_false, Int.reduceEq, false_and, true_and, and_false, and_true, or_self, or_false, false_or, or_true, true_or, not_false_eq_true, *]
                          all_goals (rw [if_neg (by omega)])
                        · show (refLL _ _ && (refLL _ _ && true)) = true
                          rw [pureLL_ref (pureLL_iv _)]
                          rfl
                        · rw [hφ0]; exact Nat.le_refl _
                    · try simp only [decide_eq_true_eq, decide_eq_false_iff_not, Bool.and_eq_true, Bool.and_eq_false_imp, Bool.or_eq_true, Bool.or_eq_false_iff, Bool.not_eq_true', Bool.not_eq_false', bne_iff_ne, beq_iff_eq, bne_eq_false_iff_eq, beq_eq_false_iff_ne, ne_eq, Int.ofNat_lt, Int.not_lt, Int.not_le, Int.ofNat_le, Nat.not_lt, Nat.not_le, gt_iff_lt, ge_iff_le] at h11
                      apply G.skip
                      apply G.blk
                      apply G.seq
                      refine G.rg tab_ok ok_implStep (hk := ?_)
                      refine G.finM (junk := [some (3, [[.int .i64 i, .int .i64 o, .row false 4 (l.map insv)]]), some (4, [[.int .i64 a, .int .i64 b, .int .i64 c, .int .i64 d]])]) tab_ok (hr := ?_) (hh := ?_) (hq := ?_) (hl := ?_)
                      · first | rfl | (simp only [oneOrTup, stepW, rg, if_true, if_false, Int.reduceEq, *]; done) | (simp only [oneOrTup, stepW, rg, if_true, if_false, Int.reduceEq, *]; rfl)
                      · simp only [List.cons_append, List.nil_append, stepPc, stepRs, valR, rg, if_true, if_false, Int.reduceEq, false_and, true_and, and_false, and_true, or_self, or_false, false_or, or_true, true_or, not_false_eq_true, *]
                        all_goals (rw [if_neg (by omega)])
                      · show (refLL _ _ && (refLL _ _ && true)) = true
                        rw [pureLL_ref (pureLL_iv _)]
                        rfl
                      · rw [hφ0]; exact Nat.le_refl _

end Go.Proofs.Ytmijpnghcggdfaa.Ab
