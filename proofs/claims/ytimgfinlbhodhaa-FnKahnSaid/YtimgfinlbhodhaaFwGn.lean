/- Walks of functions of the program, and the plain definitions. -/
import Derived.Test.YtimgfinlbhodhaaAbStepN
import Derived.Test.YtimgfinlbhodhaaFwGk
import Derived.Test.YtimgfinlbhodhaaAbStrAt
import Derived.Test.YtimgfinlbhodhaaAbAutoI
import Derived.Test.YtimgfinlbhodhaaAbRunT
import Derived.Test.YtimgfinlbhodhaaAbWire
import Derived.Test.YtimgfinlbhodhaaAbAutoJ
import Derived.Test.YtimgfinlbhodhaaFwGi
namespace Go.Proofs.Ytimgfinlbhodhaa.Ab
open Go
set_option linter.unusedVariables false
set_option linter.unusedSimpArgs false
set_option maxHeartbeats 4000000
theorem ok_implStepK : Kn.ok Try.prog (kof [(131, q_implWrap), (164, q_implRest)]) := kof_cons k_implWrap (kof_cons k_implRest ((kof_nil _)))
theorem implStepK_mc (h : Heap) (i : Int) (o : Int) (l : List I4) (pc : Int) (rs : List Int) (token : Int) (es : List (List A)) (k : Nat) (hc1 : h = [some (2, es.set k [.int .i64 pc, .sl 1 0 rs.length]), some (1, rs.map iv)]) (hc2 : 0 ≤ pc) (hc3 : pc < (l.length : Int)) (hc4 : l.length ≤ 24) (hc5 : RegOk (l.getD pc.toNat default) rs) (hc6 : k < es.length) (hc7 : pureLL es = true) : MC Try.prog 102 h [.agg [.int .i64 i, .int .i64 o, .row false 4 (l.map insv)], .ptr 0 k 0, .int .i64 token] (.int .i64 (stepW (l.getD pc.toNat default) rs)) ([some (2, es.set k [.int .i64 (stepPc (l.getD pc.toNat default) pc rs), .sl 1 0 rs.length]), some (1, (stepRs (l.getD pc.toNat default) rs token).map iv)]) := by
 have e_implWrap := e_implWrap
 have e_implRest := e_implRest
 subst hc1
 obtain ⟨⟨a, b, c, d⟩, hX⟩ : ∃ x, l.getD pc.toNat default = x := ⟨_, rfl⟩
 rw [hX] at hc5
 simp only [hX]
 have hb := hc5.b8
 have ha0 : 0 ≤ b := hc5.a0
 have ha1 : b < (rs.length : Int) := hc5.a1
 have ha2 : b.toNat < rs.length := by omega
 have hpl : pc.toNat < l.length := by omega
 have hget : (List.map iv rs)[b.toNat]? = some [.int .i64 (rs.getD b.toNat default)] := by simp [ha2, iv]
 have hset : ∀ v : Int, (List.map iv rs).set b.toNat [.int .i64 v] = List.map iv (rs.set b.toNat v) := fun v => by rw [List.map_set]; rfl
 have hlset : ∀ v : Int, rs.length ≤ (rs.set b.toNat v).length := fun v => by simp
 have htk : ∀ v : Int, List.take rs.length (List.map iv (rs.set b.toNat v)) = List.map iv (rs.set b.toNat v) := fun v => List.take_of_length_le (by simp)
 have hsame : rs.set b.toNat (rs.getD b.toNat default) = rs := by
  rw [List.getD_eq_getElem?_getD, List.getElem?_eq_getElem ha2]
  exact List.set_getElem_self ha2
 have hsame0 : ∀ v : Int, rs.getD b.toNat default = v → rs.set b.toNat v = rs := fun v h => by rw [← h]; exact hsame
 have hwp : IntKind.i64.wrap (pc + 1) = pc + 1 := wrap64 (by omega) (by omega)
 have hge : ∀ a : List A, (es.set k a)[k]? = some a := fun a => List.getElem?_set_self hc6
 have hrd0 : ∀ a b : A, rdCells (es.set k [a, b]) k 0 1 = some [a] := fun a b => by simp only [rdCells, hge]; rfl
 have hrd1 : ∀ a b : A, rdCells (es.set k [a, b]) k 1 1 = some [b] := fun a b => by simp only [rdCells, hge]; rfl
 have hss : ∀ a b : List A, (es.set k a).set k b = es.set k b := fun a b => List.set_set ..
 refine MC.of tab_ok Try.func102 rfl (Nat.le_of_ble_eq_true rfl) fun w0 S0 fs0 φ0 hφ0 hq0 => ?_
 change G _ _ ⟨[(0, .agg [.int .i64 i, .int .i64 o, .row false 4 (l.map insv)]), (1, .ptr 0 k 0), (2, .int .i64 token)], _, 156⟩
 apply G.seq
 refine G.rg tab_ok ok_implStepK (hk := ?_)
 apply G.seq
 apply G.joinR
 ·intro hk
  refine G.drawL (c := ⟨Try.prog, tab, _, _, _, _, _⟩) mixed tab_ok ok_implStepK 15 ?_ rfl
  refine AnyL.gg (n := 4) 11 [0, 1, 2, 3, 4, 5, 6, 7, 8, 9, 10] (h := ?_)
  refine AnyL.tl (n := 3) 11 19 (h := ?_)
  refine AnyL.gg (n := 0) 3 [12, 13, 14] (h := ?_)
  exact AnyL.lf [1, 2, 7, 8, 54, 55, 56, 57, 58, 59, 60, 61, 62, 63, 64, 65, 66, 67, 68, 69, 72, 73, 74, 75, 76, 77, 78, 79, 80, 81, 82, 83, 84, 85, 86, 87, 90, 91, 92, 93, 94, 95, 96, 97, 98, 99, 100, 101, 102, 103, 104, 105, 108, 109, 110, 111, 112, 113, 114, 115, 116, 117, 118, 119, 120, 121, 122] (hk := hk)
 apply G.seq
 refine G.rg tab_ok ok_implStepK (hk := ?_)
 apply G.seq
 apply G.seq
 refine G.rg tab_ok ok_implStepK (hk := ?_)
 apply G.block
 apply G.seq
 refine G.rg tab_ok ok_implStepK (hk := ?_)
 refine G.fg [1, 2, 7, 8, 29, 30, 54, 55, 56, 57, 58, 59, 60, 61, 62, 63, 64, 65, 66, 67, 68, 69, 72, 73, 74, 75, 76, 77, 78, 79, 80, 81, 82, 83, 84, 85, 86, 87, 90, 91, 92, 93, 94, 95, 96, 97, 98, 99, 100, 101, 102, 103, 104, 105, 108, 109, 110, 111, 112, 113, 114, 115, 116, 117, 118, 119, 120, 121, 122] (hk := ?_)
 refine G.iff (h1 := fun h1 => ?_) (h2 := fun h1 => ?_)
 ·try simp only [zqz] at h1
  refine G.rg tab_ok ok_implStepK (hk := ?_)
  apply G.blk
  apply G.seq
  refine G.rg tab_ok ok_implStepK (hk := ?_)
  refine G.finM (junk := [some (3, [[.int .i64 i, .int .i64 o, .row false 4 (l.map insv)]]), some (4, [[.int .i64 a, .int .i64 b, .int .i64 c, .int .i64 d]])]) tab_ok (hr := ?_) (hh := ?_) (hq := ?_) (hl := ?_)
  ·first | rfl | (simp only [oneOrTup, stepW, rg, if_true, if_false, Int.reduceEq, *]; done) | (simp only [oneOrTup, stepW, rg, if_true, if_false, Int.reduceEq, *]; rfl)
  ·simp only [List.cons_append, List.nil_append, stepPc, stepRs, valR, rg, if_true, if_false, Int.reduceEq, false_and, true_and, and_false, and_true, or_self, or_false, false_or, or_true, true_or, not_false_eq_true, *]
   all_goals (rw [if_neg (by omega)])
  ·show (refLL _ _ && (refLL _ _ && true)) = true
   rw [pureLL_ref (pureLL_iv _), refLL_set hc7 rfl]
   rfl
  ·rw [hφ0]; exact Nat.le_refl _
 ·try simp only [zqz] at h1
  apply G.seq
  refine G.rg tab_ok ok_implStepK (hk := ?_)
  refine G.iff (h1 := fun h2 => ?_) (h2 := fun h2 => ?_)
  ·try simp only [zqz] at h2
   apply G.seq
   refine G.rg tab_ok ok_implStepK (hk := ?_)
   refine G.finM (junk := [some (3, [[.int .i64 i, .int .i64 o, .row false 4 (l.map insv)]]), some (4, [[.int .i64 a, .int .i64 b, .int .i64 c, .int .i64 d]])]) tab_ok (hr := ?_) (hh := ?_) (hq := ?_) (hl := ?_)
   ·first | rfl | (simp only [oneOrTup, stepW, rg, if_true, if_false, Int.reduceEq, *]; done) | (simp only [oneOrTup, stepW, rg, if_true, if_false, Int.reduceEq, *]; rfl)
   ·simp only [List.cons_append, List.nil_append, stepPc, stepRs, valR, rg, if_true, if_false, Int.reduceEq, false_and, true_and, and_false, and_true, or_self, or_false, false_or, or_true, true_or, not_false_eq_true, *]
    all_goals (rw [if_neg (by omega)])
   ·show (refLL _ _ && (refLL _ _ && true)) = true
    rw [pureLL_ref (pureLL_iv _), refLL_set hc7 rfl]
    rfl
   ·rw [hφ0]; exact Nat.le_refl _
  ·try simp only [zqz] at h2
   apply G.seq
   refine G.rg tab_ok ok_implStepK (hk := ?_)
   refine G.iff (h1 := fun h3 => ?_) (h2 := fun h3 => ?_)
   ·try simp only [zqz] at h3
    refine G.rg tab_ok ok_implStepK (hk := ?_)
    apply G.blk
    apply G.seq
    refine G.rg tab_ok ok_implStepK (hk := ?_)
    refine G.finM (junk := [some (3, [[.int .i64 i, .int .i64 o, .row false 4 (l.map insv)]]), some (4, [[.int .i64 a, .int .i64 b, .int .i64 c, .int .i64 d]])]) tab_ok (hr := ?_) (hh := ?_) (hq := ?_) (hl := ?_)
    ·first | rfl | (simp only [oneOrTup, stepW, rg, if_true, if_false, Int.reduceEq, *]; done) | (simp only [oneOrTup, stepW, rg, if_true, if_false, Int.reduceEq, *]; rfl)
    ·simp only [List.cons_append, List.nil_append, stepPc, stepRs, valR, rg, if_true, if_false, Int.reduceEq, false_and, true_and, and_false, and_true, or_self, or_false, false_or, or_true, true_or, not_false_eq_true, *]
     all_goals (rw [if_neg (by omega)])
    ·show (refLL _ _ && (refLL _ _ && true)) = true
     rw [pureLL_ref (pureLL_iv _), refLL_set hc7 rfl]
     rfl
    ·rw [hφ0]; exact Nat.le_refl _
   ·try simp only [zqz] at h3
    apply G.seq
    refine G.rg tab_ok ok_implStepK (hk := ?_)
    refine G.iff (h1 := fun h4 => ?_) (h2 := fun h4 => ?_)
    ·try simp only [zqz] at h4
     obtain ⟨q0, q1, q2, q3⟩ := hc5.b0 (by simp only; omega)
     simp only at q0 q1 q2 q3
     have q4 : c.toNat < rs.length := by omega
     have q5 : d.toNat < rs.length := by omega
     have tb : -999999 ≤ rs.getD c.toNat default ∧ rs.getD c.toNat default ≤ 999999 := hc5.rg q0 q1
     have tc : -999999 ≤ rs.getD d.toNat default ∧ rs.getD d.toNat default ≤ 999999 := hc5.rg q2 q3
     have hw : IntKind.i64.wrap (rs.getD c.toNat default + rs.getD d.toNat default) = rs.getD c.toNat default + rs.getD d.toNat default := wrap64 (by omega) (by omega)
     refine G.dr mixed tab_ok ok_implStepK [0, 1, 2, 3, 4, 5, 6, 7, 8, 9, 10, 11, 12, 13, 14, 15, 16] (hk := ?_)
     apply G.blk
     apply G.seq
     refine G.rg tab_ok ok_implStepK (hk := ?_)
     refine G.finM (junk := [some (3, [[.int .i64 i, .int .i64 o, .row false 4 (l.map insv)]]), some (4, [[.int .i64 a, .int .i64 b, .int .i64 c, .int .i64 d]])]) tab_ok (hr := ?_) (hh := ?_) (hq := ?_) (hl := ?_)
     ·first | rfl | (simp only [oneOrTup, stepW, rg, if_true, if_false, Int.reduceEq, *]; done) | (simp only [oneOrTup, stepW, rg, if_true, if_false, Int.reduceEq, *]; rfl)
     ·simp only [List.cons_append, List.nil_append, stepPc, stepRs, valR, rg, if_true, if_false, Int.reduceEq, false_and, true_and, and_false, and_true, or_self, or_false, false_or, or_true, true_or, not_false_eq_true, *]
      all_goals (rw [if_neg (by omega)])
     ·show (refLL _ _ && (refLL _ _ && true)) = true
      rw [pureLL_ref (pureLL_iv _), refLL_set hc7 rfl]
      rfl
     ·rw [hφ0]; exact Nat.le_refl _
    ·try simp only [zqz] at h4
     apply G.seq
     refine G.rg tab_ok ok_implStepK (hk := ?_)
     refine G.iff (h1 := fun h5 => ?_) (h2 := fun h5 => ?_)
     ·try simp only [zqz] at h5
      obtain ⟨q0, q1, q2, q3⟩ := hc5.b0 (by simp only; omega)
      simp only at q0 q1 q2 q3
      have q4 : c.toNat < rs.length := by omega
      have q5 : d.toNat < rs.length := by omega
      have tb : -999999 ≤ rs.getD c.toNat default ∧ rs.getD c.toNat default ≤ 999999 := hc5.rg q0 q1
      have tc : -999999 ≤ rs.getD d.toNat default ∧ rs.getD d.toNat default ≤ 999999 := hc5.rg q2 q3
      have hw : IntKind.i64.wrap (rs.getD c.toNat default - rs.getD d.toNat default) = rs.getD c.toNat default - rs.getD d.toNat default := wrap64 (by omega) (by omega)
      refine G.dr mixed tab_ok ok_implStepK [0, 1, 2, 3, 4, 5, 6, 7, 8, 9, 10, 11, 12, 13, 14, 15, 16] (hk := ?_)
      apply G.blk
      apply G.seq
      refine G.rg tab_ok ok_implStepK (hk := ?_)
      refine G.finM (junk := [some (3, [[.int .i64 i, .int .i64 o, .row false 4 (l.map insv)]]), some (4, [[.int .i64 a, .int .i64 b, .int .i64 c, .int .i64 d]])]) tab_ok (hr := ?_) (hh := ?_) (hq := ?_) (hl := ?_)
      ·first | rfl | (simp only [oneOrTup, stepW, rg, if_true, if_false, Int.reduceEq, *]; done) | (simp only [oneOrTup, stepW, rg, if_true, if_false, Int.reduceEq, *]; rfl)
      ·simp only [List.cons_append, List.nil_append, stepPc, stepRs, valR, rg, if_true, if_false, Int.reduceEq, false_and, true_and, and_false, and_true, or_self, or_false, false_or, or_true, true_or, not_false_eq_true, *]
       all_goals (rw [if_neg (by omega)])
      ·show (refLL _ _ && (refLL _ _ && true)) = true
       rw [pureLL_ref (pureLL_iv _), refLL_set hc7 rfl]
       rfl
      ·rw [hφ0]; exact Nat.le_refl _
     ·try simp only [zqz] at h5
      apply G.seq
      refine G.rg tab_ok ok_implStepK (hk := ?_)
      refine G.fg [1, 7, 8, 29, 88, 90, 91, 92, 93, 94, 95, 96, 97, 98, 99, 100, 101, 102, 103, 104, 105, 108, 109, 110, 111, 112, 113, 114, 115, 116, 117, 118, 119, 120, 121, 122] (hk := ?_)
      refine G.iff (h1 := fun h6 => ?_) (h2 := fun h6 => ?_)
      ·try simp only [zqz] at h6
       obtain ⟨q0, q1, q2, q3⟩ := hc5.b0 (by simp only; omega)
       simp only at q0 q1 q2 q3
       have q4 : c.toNat < rs.length := by omega
       have q5 : d.toNat < rs.length := by omega
       have tb : -999999 ≤ rs.getD c.toNat default ∧ rs.getD c.toNat default ≤ 999999 := hc5.rg q0 q1
       have tc : -999999 ≤ rs.getD d.toNat default ∧ rs.getD d.toNat default ≤ 999999 := hc5.rg q2 q3
       have hmul : -999998000001 ≤ rs.getD c.toNat default * rs.getD d.toNat default ∧ rs.getD c.toNat default * rs.getD d.toNat default ≤ 999998000001 := mul_tok tb tc
       have hw : IntKind.i64.wrap (rs.getD c.toNat default * rs.getD d.toNat default) = rs.getD c.toNat default * rs.getD d.toNat default := wrap64 (by omega) (by omega)
       refine G.dr mixed tab_ok ok_implStepK [0, 1, 2, 3, 4, 5, 6, 7, 8, 9, 10, 11, 12, 13, 14, 15, 16] (hk := ?_)
       apply G.blk
       apply G.seq
       refine G.rg tab_ok ok_implStepK (hk := ?_)
       refine G.finM (junk := [some (3, [[.int .i64 i, .int .i64 o, .row false 4 (l.map insv)]]), some (4, [[.int .i64 a, .int .i64 b, .int .i64 c, .int .i64 d]])]) tab_ok (hr := ?_) (hh := ?_) (hq := ?_) (hl := ?_)
       ·first | rfl | (simp only [oneOrTup, stepW, rg, if_true, if_false, Int.reduceEq, *]; done) | (simp only [oneOrTup, stepW, rg, if_true, if_false, Int.reduceEq, *]; rfl)
       ·simp only [List.cons_append, List.nil_append, stepPc, stepRs, valR, rg, if_true, if_false, Int.reduceEq, false_and, true_and, and_false, and_true, or_self, or_false, false_or, or_true, true_or, not_false_eq_true, *]
        all_goals (rw [if_neg (by omega)])
       ·show (refLL _ _ && (refLL _ _ && true)) = true
        rw [pureLL_ref (pureLL_iv _), refLL_set hc7 rfl]
        rfl
       ·rw [hφ0]; exact Nat.le_refl _
      ·try simp only [zqz] at h6
       apply G.seq
       refine G.rg tab_ok ok_implStepK (hk := ?_)
       refine G.iff (h1 := fun h7 => ?_) (h2 := fun h7 => ?_)
       ·try simp only [zqz] at h7
        obtain ⟨q0, q1, q2, q3⟩ := hc5.b0 (by simp only; omega)
        simp only at q0 q1 q2 q3
        have q4 : c.toNat < rs.length := by omega
        have q5 : d.toNat < rs.length := by omega
        have tb : -999999 ≤ rs.getD c.toNat default ∧ rs.getD c.toNat default ≤ 999999 := hc5.rg q0 q1
        have tc : -999999 ≤ rs.getD d.toNat default ∧ rs.getD d.toNat default ≤ 999999 := hc5.rg q2 q3
        refine G.dr mixed tab_ok ok_implStepK [0, 1, 2, 3, 4, 5, 6, 7, 8, 9, 10, 11, 12, 13, 14, 15] (hk := ?_)
        apply G.blk
        apply G.seq
        refine G.rg tab_ok ok_implStepK (hk := ?_)
        refine G.finM (junk := [some (3, [[.int .i64 i, .int .i64 o, .row false 4 (l.map insv)]]), some (4, [[.int .i64 a, .int .i64 b, .int .i64 c, .int .i64 d]])]) tab_ok (hr := ?_) (hh := ?_) (hq := ?_) (hl := ?_)
        ·first | rfl | (simp only [oneOrTup, stepW, rg, if_true, if_false, Int.reduceEq, *]; done) | (simp only [oneOrTup, stepW, rg, if_true, if_false, Int.reduceEq, *]; rfl)
        ·simp only [List.cons_append, List.nil_append, stepPc, stepRs, valR, rg, if_true, if_false, Int.reduceEq, false_and, true_and, and_false, and_true, or_self, or_false, false_or, or_true, true_or, not_false_eq_true, *]
         all_goals (rw [if_neg (by omega)])
        ·show (refLL _ _ && (refLL _ _ && true)) = true
         rw [pureLL_ref (pureLL_iv _), refLL_set hc7 rfl]
         rfl
        ·rw [hφ0]; exact Nat.le_refl _
       ·try simp only [zqz] at h7
        apply G.seq
        refine G.rg tab_ok ok_implStepK (hk := ?_)
        refine G.iff (h1 := fun h8 => ?_) (h2 := fun h8 => ?_)
        ·try simp only [zqz] at h8
         refine G.rg tab_ok ok_implStepK (hk := ?_)
         apply G.blk
         apply G.seq
         refine G.rg tab_ok ok_implStepK (hk := ?_)
         refine G.finM (junk := [some (3, [[.int .i64 i, .int .i64 o, .row false 4 (l.map insv)]]), some (4, [[.int .i64 a, .int .i64 b, .int .i64 c, .int .i64 d]])]) tab_ok (hr := ?_) (hh := ?_) (hq := ?_) (hl := ?_)
         ·first | rfl | (simp only [oneOrTup, stepW, rg, if_true, if_false, Int.reduceEq, *]; done) | (simp only [oneOrTup, stepW, rg, if_true, if_false, Int.reduceEq, *]; rfl)
         ·simp only [List.cons_append, List.nil_append, stepPc, stepRs, valR, rg, if_true, if_false, Int.reduceEq, false_and, true_and, and_false, and_true, or_self, or_false, false_or, or_true, true_or, not_false_eq_true, *]
          all_goals (rw [if_neg (by omega)])
         ·show (refLL _ _ && (refLL _ _ && true)) = true
          rw [pureLL_ref (pureLL_iv _), refLL_set hc7 rfl]
          rfl
         ·rw [hφ0]; exact Nat.le_refl _
        ·try simp only [zqz] at h8
         apply G.seq
         refine G.rg tab_ok ok_implStepK (hk := ?_)
         refine G.iff (h1 := fun h9 => ?_) (h2 := fun h9 => ?_)
         ·try simp only [zqz] at h9
          apply G.seq
          refine G.rg tab_ok ok_implStepK (hk := ?_)
          refine G.fg [1, 7, 137] (hk := ?_)
          refine G.iff (h1 := fun h10 => ?_) (h2 := fun h10 => ?_)
          ·try simp only [zqz] at h10
           refine G.rg tab_ok ok_implStepK (hk := ?_)
           apply G.blk
           apply G.seq
           refine G.rg tab_ok ok_implStepK (hk := ?_)
           refine G.finM (junk := [some (3, [[.int .i64 i, .int .i64 o, .row false 4 (l.map insv)]]), some (4, [[.int .i64 a, .int .i64 b, .int .i64 c, .int .i64 d]])]) tab_ok (hr := ?_) (hh := ?_) (hq := ?_) (hl := ?_)
           ·first | rfl | (simp only [oneOrTup, stepW, rg, if_true, if_false, Int.reduceEq, *]; done) | (simp only [oneOrTup, stepW, rg, if_true, if_false, Int.reduceEq, *]; rfl)
           ·simp only [List.cons_append, List.nil_append, stepPc, stepRs, valR, rg, if_true, if_false, Int.reduceEq, false_and, true_and, and_false, and_true, or_self, or_false, false_or, or_true, true_or, not_false_eq_true, *]
            all_goals (rw [if_neg (by omega)])
           ·show (refLL _ _ && (refLL _ _ && true)) = true
            rw [pureLL_ref (pureLL_iv _), refLL_set hc7 rfl]
            rfl
           ·rw [hφ0]; exact Nat.le_refl _
          ·try simp only [zqz] at h10
           apply G.skip
           apply G.blk
           apply G.seq
           refine G.rg tab_ok ok_implStepK (hk := ?_)
           refine G.finM (junk := [some (3, [[.int .i64 i, .int .i64 o, .row false 4 (l.map insv)]]), some (4, [[.int .i64 a, .int .i64 b, .int .i64 c, .int .i64 d]])]) tab_ok (hr := ?_) (hh := ?_) (hq := ?_) (hl := ?_)
           ·first | rfl | (simp only [oneOrTup, stepW, rg, if_true, if_false, Int.reduceEq, *]; done) | (simp only [oneOrTup, stepW, rg, if_true, if_false, Int.reduceEq, *]; rfl)
           ·simp only [List.cons_append, List.nil_append, stepPc, stepRs, valR, rg, if_true, if_false, Int.reduceEq, false_and, true_and, and_false, and_true, or_self, or_false, false_or, or_true, true_or, not_false_eq_true, *]
            all_goals (rw [if_neg (by omega)])
           ·show (refLL _ _ && (refLL _ _ && true)) = true
            rw [pureLL_ref (pureLL_iv _), refLL_set hc7 rfl]
            rfl
           ·rw [hφ0]; exact Nat.le_refl _
         ·try simp only [zqz] at h9
          apply G.seq
          refine G.rg tab_ok ok_implStepK (hk := ?_)
          refine G.iff (h1 := fun h11 => ?_) (h2 := fun h11 => ?_)
          ·try simp only [zqz] at h11
           apply G.seq
           refine G.rg tab_ok ok_implStepK (hk := ?_)
           refine G.fg [1, 7, 150] (hk := ?_)
           refine G.iff (h1 := fun h12 => ?_) (h2 := fun h12 => ?_)
           ·try simp only [zqz] at h12
            refine G.rg tab_ok ok_implStepK (hk := ?_)
            apply G.blk
            apply G.seq
            refine G.rg tab_ok ok_implStepK (hk := ?_)
            refine G.finM (junk := [some (3, [[.int .i64 i, .int .i64 o, .row false 4 (l.map insv)]]), some (4, [[.int .i64 a, .int .i64 b, .int .i64 c, .int .i64 d]])]) tab_ok (hr := ?_) (hh := ?_) (hq := ?_) (hl := ?_)
            ·first | rfl | (simp only [oneOrTup, stepW, rg, if_true, if_false, Int.reduceEq, *]; done) | (simp only [oneOrTup, stepW, rg, if_true, if_false, Int.reduceEq, *]; rfl)
            ·simp only [List.cons_append, List.nil_append, stepPc, stepRs, valR, rg, if_true, if_false, Int.reduceEq, false_and, true_and, and_false, and_true, or_self, or_false, false_or, or_true, true_or, not_false_eq_true, *]
             all_goals (rw [if_neg (by omega)])
            ·show (refLL _ _ && (refLL _ _ && true)) = true
             rw [pureLL_ref (pureLL_iv _), refLL_set hc7 rfl]
             rfl
            ·rw [hφ0]; exact Nat.le_refl _
           ·try simp only [zqz] at h12
            apply G.skip
            apply G.blk
            apply G.seq
            refine G.rg tab_ok ok_implStepK (hk := ?_)
            refine G.finM (junk := [some (3, [[.int .i64 i, .int .i64 o, .row false 4 (l.map insv)]]), some (4, [[.int .i64 a, .int .i64 b, .int .i64 c, .int .i64 d]])]) tab_ok (hr := ?_) (hh := ?_) (hq := ?_) (hl := ?_)
            ·first | rfl | (simp only [oneOrTup, stepW, rg, if_true, if_false, Int.reduceEq, *]; done) | (simp only [oneOrTup, stepW, rg, if_true, if_false, Int.reduceEq, *]; rfl)
            ·simp only [List.cons_append, List.nil_append, stepPc, stepRs, valR, rg, if_true, if_false, Int.reduceEq, false_and, true_and, and_false, and_true, or_self, or_false, false_or, or_true, true_or, not_false_eq_true, *]
             all_goals (rw [if_neg (by omega)])
            ·show (refLL _ _ && (refLL _ _ && true)) = true
             rw [pureLL_ref (pureLL_iv _), refLL_set hc7 rfl]
             rfl
            ·rw [hφ0]; exact Nat.le_refl _
          ·try simp only [zqz] at h11
           apply G.skip
           apply G.blk
           apply G.seq
           refine G.rg tab_ok ok_implStepK (hk := ?_)
           refine G.finM (junk := [some (3, [[.int .i64 i, .int .i64 o, .row false 4 (l.map insv)]]), some (4, [[.int .i64 a, .int .i64 b, .int .i64 c, .int .i64 d]])]) tab_ok (hr := ?_) (hh := ?_) (hq := ?_) (hl := ?_)
           ·first | rfl | (simp only [oneOrTup, stepW, rg, if_true, if_false, Int.reduceEq, *]; done) | (simp only [oneOrTup, stepW, rg, if_true, if_false, Int.reduceEq, *]; rfl)
           ·simp only [List.cons_append, List.nil_append, stepPc, stepRs, valR, rg, if_true, if_false, Int.reduceEq, false_and, true_and, and_false, and_true, or_self, or_false, false_or, or_true, true_or, not_false_eq_true, *]
            all_goals (rw [if_neg (by omega)])
           ·show (refLL _ _ && (refLL _ _ && true)) = true
            rw [pureLL_ref (pureLL_iv _), refLL_set hc7 rfl]
            rfl
           ·rw [hφ0]; exact Nat.le_refl _
theorem ok_r_step : Kn.ok Try.prog (kof [(127, q_r_wants)]) := kof_cons k_r_wants ((kof_nil _))
theorem en_implStepK : Enters Try.prog 102 := enters_of Try.func102 rfl rfl
theorem r_step_mc (h : Heap) (ps : List PG) (ks : List LK) (xs : List AT) (qs : List (List Int)) (hs : List (List Int)) (t : Int) (k : Nat) (hc1 : h = [some (9, [[.row false 3 (ps.map pv), .row false 5 (ks.map kv), .row true 2 (xs.map oav), .row true 1 (qs.map ovL), .row true 1 (hs.map ovL), .int .i64 t, .row true 1 ((toT ps ks ks.length).map ovL), .row true 1 ((frT ps ks ks.length).map ovL), .nils]])]) (hc2 : stOk ps ks xs qs hs t = true) (hc3 : k < ps.length) (hc4 : canK ps ks xs qs hs t k = true) : MC Try.prog 85 h [.ptr 0 0 0, .int .i64 (k : Int)] (.tup []) ([some (9, [[.row false 3 (ps.map pv), .row false 5 (ks.map kv), .row true 2 ((xsK ps ks xs qs k).map oav), .row true 1 ((qsK ps ks xs qs k).map ovL), .row true 1 ((hsK ps ks xs hs k).map ovL), .int .i64 (t + 1), .row true 1 ((toT ps ks ks.length).map ovL), .row true 1 ((frT ps ks ks.length).map ovL), .nils]])]) := by
 have e_r_wants := e_r_wants
 subst hc1
 have hst := stOk_w hc2
 have hnw := netOk_w hst.net
 have hp12 := hnw.pl
 have hk30 := hnw.kl
 have hx1 : xs.length ≤ ps.length := Nat.le_of_eq hst.xl
 have hx2 : ps.length ≤ xs.length := Nat.le_of_eq hst.xl.symm
 have hq1 : qs.length ≤ ks.length := Nat.le_of_eq hst.ql
 have hq2 : ks.length ≤ qs.length := Nat.le_of_eq hst.ql.symm
 have hh1 : hs.length ≤ ks.length := Nat.le_of_eq hst.hl
 have hh2 : ks.length ≤ hs.length := Nat.le_of_eq hst.hl.symm
 have ht0 := hst.t0
 have ht1 := hst.t1
 have hsq := st_q hst
 have hsh := st_h hst
 have hsa := st_a hst
 have hkw := net_KW hst.net
 have hksB : ks.length < 2513169434844 := by omega
 have hpsB : ps.length < 3518437208781 := by omega
 have hft : (false == true) = false := rfl
 have htf : (true == false) = false := rfl
 have hivl := ivL_eq
 have hro := roLL_ovL
 have hpov := pureLL_ovL
 have hnov := noLoanLL_ovL
 have hpiv := pureLL_ivL
 have hriv := roLL_ivL
 have hkp : k < ps.length := hc3
 have hkx : k < xs.length := by omega
 have hki : (k : Int) < (ps.length : Int) := by omega
 have hkj : (k : Int) < (xs.length : Int) := by omega
 have hpc := st_pc hst hkp
 have hpc0 := hpc.1
 have hpc1 := hpc.2
 clear hpc
 have hst := stOk_w hc2
 obtain ⟨hct, hcw⟩ := can_w hc4
 have hfou : ∀ x : List (List Int), List.take x.length (x.map ovL) = x.map ovL := fun x => List.take_of_length_le (by simp)
 have hrq := roLL_ovL
 have hra := roLL_oav
 have hwt : IntKind.i64.wrap (t + 1) = t + 1 := wrap64 (by omega) (by omega)
 have hfoa : ∀ x : List AT, List.take x.length (x.map oav) = x.map oav := fun x => List.take_of_length_le (by simp)
 have hfos : ∀ x : List (List Int), List.take x.length (x.map ovL) = x.map ovL := fun x => List.take_of_length_le (by simp)
 have hta : List.take xs.length ((xsK ps ks xs qs k).map oav) = (xsK ps ks xs qs k).map oav := List.take_of_length_le (by simp [xsK_len])
 have hrna : ∀ (s : List Nat) (c : List A), rnLL s ((xs.map oav).set k c) = (xs.map oav).set k (rnL s c) := fun s c => rnLL_set (pureLL_oav xs)
 have hmpa : ∀ (r : Nat → Nat) (c : List A), mpLL r ((xs.map oav).set k c) = (xs.map oav).set k (mpL r c) := fun r c => mpLL_set (pureLL_oav xs)
 have hgea : ∀ a : List A, ((xs.map oav).set k a)[k]? = some a := fun a => List.getElem?_set_self (by rw [List.length_map]; exact hkx)
 have hrda0 : ∀ a b : A, rdCells ((xs.map oav).set k [a, b]) k 0 1 = some [a] := fun a b => by simp only [rdCells, hgea]; rfl
 have hrda1 : ∀ a b : A, rdCells ((xs.map oav).set k [a, b]) k 1 1 = some [b] := fun a b => by simp only [rdCells, hgea]; rfl
 have b00 : ((0 : Int) == 0) = true := rfl
 have b01 : ((0 : Int) == 1) = false := rfl
 have b02 : ((0 : Int) == 2) = false := rfl
 have b03 : ((0 : Int) == 3) = false := rfl
 have b10 : ((1 : Int) == 0) = false := rfl
 have b11 : ((1 : Int) == 1) = true := rfl
 have b12 : ((1 : Int) == 2) = false := rfl
 have b13 : ((1 : Int) == 3) = false := rfl
 have b20 : ((2 : Int) == 0) = false := rfl
 have b21 : ((2 : Int) == 1) = false := rfl
 have b22 : ((2 : Int) == 2) = true := rfl
 have b23 : ((2 : Int) == 3) = false := rfl
 have b30 : ((3 : Int) == 0) = false := rfl
 have b31 : ((3 : Int) == 1) = false := rfl
 have b32 : ((3 : Int) == 2) = false := rfl
 have b33 : ((3 : Int) == 3) = true := rfl
 refine MC.of tab_ok Try.func85 rfl (Nat.le_of_ble_eq_true rfl) fun w0 S0 fs0 φ0 hφ0 hq0 => ?_
 change G _ _ ⟨[(0, .ptr 0 0 0), (1, .int .i64 (k : Int))], _, 106⟩
 apply G.seq
 rcases hcw with c0 | ⟨c0, c1⟩ | ⟨c0, c1⟩
 ·skip
  obtain ⟨L, hL⟩ : ∃ x, lnkK ps ks xs k = x := ⟨_, rfl⟩
  obtain ⟨x, hxe⟩ : ∃ x, xs.getD k default = x := ⟨_, rfl⟩
  have hwn : ¬ (wAtK ps xs k).1 = 0 := by rw [c0]; decide
  obtain ⟨hlt, hreg, hop⟩ := k_reg hst hkp hwn
  have hl24 := progOk_len (pg_ok hst.net hkp)
  have hxl : x.rs.length = 4 := by rw [← hxe]; exact actOk_len (hst.act k hkp)
  have hxr : x.rs.length < 17592186044416 := by omega
  clear hxl
  unfold opK at hreg
  have htk : tokK ps ks xs qs k = 0 := by unfold tokK; rw [if_neg (by omega)]
  have hXK : xs.set k ⟨stepPc ((ps.getD k default).l.getD x.pc.toNat default) x.pc x.rs, stepRs ((ps.getD k default).l.getD x.pc.toNat default) x.rs 0⟩ = xsK ps ks xs qs k := by unfold xsK newA opK; rw [htk, hxe]
  have hWK : stepW ((ps.getD k default).l.getD x.pc.toNat default) x.rs = wrK ps xs k := by unfold wrK opK; rw [hxe]
  have hHK : hsK ps ks xs hs k = hs := by unfold hsK; rw [if_neg (by omega)]
  have hQK : qsK ps ks xs qs k = qs := by unfold qsK; rw [if_neg (by omega), if_neg (by omega)]
  rw [hxe] at hlt hreg hpc0 hpc1
  clear hop hwn
  refine G.rg tab_ok ok_r_step (hk := ?_)
  apply G.seq
  refine G.rg tab_ok ok_r_step (hk := ?_)
  apply G.seq
  apply G.seq
  refine G.rg tab_ok ok_r_step (hk := ?_)
  refine G.iffF (h2 := ?_)
  apply G.skip
  apply G.seq
  refine G.focus 0 0 2 rfl rfl rfl ?_
  simp only [withH, List.set_cons_succ, List.set_cons_zero, List.nil_append, List.cons_append, List.length_cons, List.length_nil, List.length_map, Nat.zero_add, Nat.reduceAdd]
  refine G.focusE 1 k 1 (f := oav) (l := xs) (sz' := 1) (es' := x.rs.map iv) rfl hkx (by rw [hxe]; rfl) ?_
  rw [hxe]
  simp only [withH, List.set_cons_succ, List.set_cons_zero, List.nil_append, List.cons_append, List.length_cons, List.length_nil, List.length_map, Nat.zero_add, Nat.reduceAdd]
  simp only [oav_eq, List.set_cons_succ, List.set_cons_zero]
  refine G.drM 17 16 [0, 1, 2, 3, 4, 5, 6, 7, 8, 9, 10, 11, 12, 13, 14, 15] [1, 2] en_implStepK (implStepK_mc _ (ps.getD k default).i (ps.getD k default).o (ps.getD k default).l x.pc x.rs 0 (xs.map oav) k rfl hpc0 hlt hl24 hreg (by simpa using hkx) (pureLL_oav xs)) mixed tab_ok ok_r_step (h := ?_)
  refine AnyL.gu (n := 0) 17 [0, 1, 2, 3, 4, 5, 6, 7, 8, 9, 10, 11, 12, 13, 14, 15, 17] (h := ?_)
  refine AnyL.lf [0, 4, 5, 7, 61, 62, 63, 64, 65, 66, 67, 68, 69, 70, 71, 72, 73, 74, 75, 76, 77, 78, 79, 80, 81, 82, 83, 84, 85, 86, 87, 88, 89, 90, 91, 92, 93, 94, 95, 96] (hk := ?_)
  refine G.unfocusE 1 k 1 2 (f := oav) (l := xs) ⟨stepPc ((ps.getD k default).l.getD x.pc.toNat default) x.pc x.rs, stepRs ((ps.getD k default).l.getD x.pc.toNat default) x.rs 0⟩ rfl hkx rfl rfl (by decide) (by simp [stepRs_len]) (pureLL_iv _) rfl ?_
  simp only [withH, List.set_cons_succ, List.set_cons_zero, List.nil_append, List.cons_append, List.length_cons, List.length_nil, List.length_map, Nat.zero_add, Nat.reduceAdd]
  rw [hXK]
  refine G.unfocus 0 0 2 1 rfl rfl rfl rfl (by decide) (by simp [xsK_len]) (pureLL_oav _) ?_
  simp only [withH, List.set_cons_succ, List.set_cons_zero, List.nil_append, List.cons_append, List.length_cons, List.length_nil, List.length_map, Nat.zero_add, Nat.reduceAdd]
  simp only [List.drop_zero, hta]
  apply G.seq
  apply G.seq
  refine G.rg tab_ok ok_r_step (hk := ?_)
  refine G.iffF (h2 := ?_)
  apply G.skip
  refine G.fg [0] (hk := ?_)
  refine G.rg tab_ok ok_r_step (hk := ?_)
  refine G.doneN (junk := [none, none]) (xs := []) tab_ok rfl rfl ?_ ?_ ?_ ?_ ?_
  ·rfl
  ·rw [hQK, hHK]; rfl
  ·rfl
  ·simp [hrefs, refLL, refL, refA, pureLL_ref, pureLL_oav, pureLL_ovL, pureLL_pv, pureLL_kv]
  ·rw [hφ0]; exact Nat.le_refl _
 ·skip
  obtain ⟨L, hL⟩ : ∃ x, lnkK ps ks xs k = x := ⟨_, rfl⟩
  obtain ⟨_, _, g1, g2⟩ := want_two hst hkp c0
  rw [← lnk_2 (ks := ks) c0, hL] at g1 g2
  rw [hL] at c1
  have g3 : L < (qs.length : Int) := by omega
  have g4 : L < (hs.length : Int) := by omega
  have g5 : L.toNat < qs.length := by omega
  have g6 : L.toNat < hs.length := by omega
  obtain ⟨q, hqe⟩ : ∃ x, qs.getD L.toNat default = x := ⟨_, rfl⟩
  rw [hqe] at c1
  have hgeq : ∀ a : List A, ((qs.map ovL).set L.toNat a)[L.toNat]? = some a := fun a => List.getElem?_set_self (by rw [List.length_map]; omega)
  have hrdq : ∀ a : A, rdCells ((qs.map ovL).set L.toNat [a]) L.toNat 0 1 = some [a] := fun a => by simp only [rdCells, hgeq]; rfl
  have hssq : ∀ a b : List A, ((qs.map ovL).set L.toNat a).set L.toNat b = (qs.map ovL).set L.toNat b := fun a b => List.set_set ..
  obtain ⟨x, hxe⟩ : ∃ x, xs.getD k default = x := ⟨_, rfl⟩
  have hwn : ¬ (wAtK ps xs k).1 = 0 := by rw [c0]; decide
  obtain ⟨hlt, hreg, hop⟩ := k_reg hst hkp hwn
  have hl24 := progOk_len (pg_ok hst.net hkp)
  have hxl : x.rs.length = 4 := by rw [← hxe]; exact actOk_len (hst.act k hkp)
  have hxr : x.rs.length < 17592186044416 := by omega
  clear hxl
  unfold opK at hreg
  have htk : tokK ps ks xs qs k = (q.getD 0 default) := by unfold tokK; rw [if_pos c0, hL, hqe]
  have hXK : xs.set k ⟨stepPc ((ps.getD k default).l.getD x.pc.toNat default) x.pc x.rs, stepRs ((ps.getD k default).l.getD x.pc.toNat default) x.rs (q.getD 0 default)⟩ = xsK ps ks xs qs k := by unfold xsK newA opK; rw [htk, hxe]
  have hWK : stepW ((ps.getD k default).l.getD x.pc.toNat default) x.rs = wrK ps xs k := by unfold wrK opK; rw [hxe]
  have hHK : hsK ps ks xs hs k = hs := by unfold hsK; rw [if_neg (by omega)]
  have hQK : qsK ps ks xs qs k = qs.set L.toNat (q.drop 1) := by unfold qsK; rw [if_pos c0, hL, hqe]
  rw [hxe] at hlt hreg hpc0 hpc1
  clear hop hwn
  have hq0 : (q.map iv)[0]? = some [.int .i64 (q.getD 0 default)] := by rw [List.getElem?_map, getD_some c1]; rfl
  have hq1i : (0 : Int) < (q.length : Int) := by omega
  have hq1n : 1 ≤ q.length := by omega
  have hq1j : (1 : Int) ≤ (q.length : Int) := by omega
  have htq : ∀ r : List Int, List.take qs.length ((qs.set L.toNat r).map ovL) = (qs.set L.toNat r).map ovL := fun r => List.take_of_length_le (by simp)
  have hth : ∀ r : List Int, List.take hs.length ((hs.set L.toNat r).map ovL) = (hs.set L.toNat r).map ovL := fun r => List.take_of_length_le (by simp)
  refine G.rg tab_ok ok_r_step (hk := ?_)
  apply G.seq
  refine G.rg tab_ok ok_r_step (hk := ?_)
  apply G.seq
  apply G.seq
  refine G.rg tab_ok ok_r_step (hk := ?_)
  refine G.iffT (h1 := ?_)
  apply G.seq
  refine G.focus 0 0 3 rfl rfl rfl ?_
  simp only [withH, List.set_cons_succ, List.set_cons_zero, List.nil_append, List.cons_append, List.length_cons, List.length_nil, List.length_map, Nat.zero_add, Nat.reduceAdd]
  refine G.focusO 1 L.toNat (outs := qs) rfl g5 ?_
  rw [hqe]
  simp only [withH, List.set_cons_succ, List.set_cons_zero, List.nil_append, List.cons_append, List.length_cons, List.length_nil, List.length_map, Nat.zero_add, Nat.reduceAdd]
  refine G.rg tab_ok ok_r_step (hk := ?_)
  refine G.dr mixed tab_ok ok_r_step [0, 1, 2, 3, 4, 5, 6, 7, 8, 9, 10, 11, 12, 13, 14, 15, 16] (hk := ?_)
  refine G.unfocusQ 1 L.toNat 2 (r := q) rfl rfl (by decide) (by omega) g5 ?_
  refine G.unfocus 0 0 3 1 rfl rfl rfl rfl (by decide) (by simp) (pureLL_ovL _) ?_
  simp only [withH, List.set_cons_succ, List.set_cons_zero, List.nil_append, List.cons_append, List.length_cons, List.length_nil, List.length_map, Nat.zero_add, Nat.reduceAdd]
  simp only [List.drop_zero, htq]
  apply G.seq
  refine G.fg [0, 1, 4, 5, 6, 42, 43, 44, 45, 46, 47, 48, 49, 50, 51, 52, 53, 54, 55, 56, 57, 58, 61, 62, 63, 64, 65, 66, 67, 68, 69, 70, 71, 72, 73, 74, 75, 76, 77, 78, 79, 80, 81, 82, 83, 84, 85, 86, 87, 88, 89, 90, 91, 92, 93, 94, 95, 96] (hk := ?_)
  refine G.focus 0 0 2 rfl rfl rfl ?_
  simp only [withH, List.set_cons_succ, List.set_cons_zero, List.nil_append, List.cons_append, List.length_cons, List.length_nil, List.length_map, Nat.zero_add, Nat.reduceAdd]
  refine G.focusE 3 k 1 (f := oav) (l := xs) (sz' := 1) (es' := x.rs.map iv) rfl hkx (by rw [hxe]; rfl) ?_
  rw [hxe]
  simp only [withH, List.set_cons_succ, List.set_cons_zero, List.nil_append, List.cons_append, List.length_cons, List.length_nil, List.length_map, Nat.zero_add, Nat.reduceAdd]
  simp only [oav_eq, List.set_cons_succ, List.set_cons_zero]
  refine G.drM 17 16 [0, 1, 2, 3, 4, 5, 6, 7, 8, 9, 10, 11, 12, 13, 14, 15] [3, 4] en_implStepK (implStepK_mc _ (ps.getD k default).i (ps.getD k default).o (ps.getD k default).l x.pc x.rs (q.getD 0 default) (xs.map oav) k rfl hpc0 hlt hl24 hreg (by simpa using hkx) (pureLL_oav xs)) mixed tab_ok ok_r_step (h := ?_)
  refine AnyL.gu (n := 0) 17 [0, 1, 2, 3, 4, 5, 6, 7, 8, 9, 10, 11, 12, 13, 14, 15, 17] (h := ?_)
  refine AnyL.lf [0, 4, 5, 7, 61, 62, 63, 64, 65, 66, 67, 68, 69, 70, 71, 72, 73, 74, 75, 76, 77, 78, 79, 80, 81, 82, 83, 84, 85, 86, 87, 88, 89, 90, 91, 92, 93, 94, 95, 96] (hk := ?_)
  refine G.unfocusE 3 k 1 4 (f := oav) (l := xs) ⟨stepPc ((ps.getD k default).l.getD x.pc.toNat default) x.pc x.rs, stepRs ((ps.getD k default).l.getD x.pc.toNat default) x.rs (q.getD 0 default)⟩ rfl hkx rfl rfl (by decide) (by simp [stepRs_len]) (pureLL_iv _) rfl ?_
  simp only [withH, List.set_cons_succ, List.set_cons_zero, List.nil_append, List.cons_append, List.length_cons, List.length_nil, List.length_map, Nat.zero_add, Nat.reduceAdd]
  rw [hXK]
  refine G.unfocus 0 0 2 3 rfl rfl rfl rfl (by decide) (by simp [xsK_len]) (pureLL_oav _) ?_
  simp only [withH, List.set_cons_succ, List.set_cons_zero, List.nil_append, List.cons_append, List.length_cons, List.length_nil, List.length_map, Nat.zero_add, Nat.reduceAdd]
  simp only [List.drop_zero, hta]
  apply G.seq
  apply G.seq
  refine G.rg tab_ok ok_r_step (hk := ?_)
  refine G.iffF (h2 := ?_)
  apply G.skip
  refine G.rg tab_ok ok_r_step (hk := ?_)
  refine G.doneN (junk := [none, none, none, none]) (xs := []) tab_ok rfl rfl ?_ ?_ ?_ ?_ ?_
  ·rfl
  ·rw [hQK, hHK]; rfl
  ·rfl
  ·simp [hrefs, refLL, refL, refA, pureLL_ref, pureLL_oav, pureLL_ovL, pureLL_pv, pureLL_kv]
  ·rw [hφ0]; exact Nat.le_refl _
 ·skip
  obtain ⟨L, hL⟩ : ∃ x, lnkK ps ks xs k = x := ⟨_, rfl⟩
  obtain ⟨_, _, g1, g2⟩ := want_three hst hkp c0
  rw [← lnk_3 (ks := ks) c0, hL] at g1 g2
  rw [hL] at c1
  have g3 : L < (qs.length : Int) := by omega
  have g4 : L < (hs.length : Int) := by omega
  have g5 : L.toNat < qs.length := by omega
  have g6 : L.toNat < hs.length := by omega
  obtain ⟨q, hqe⟩ : ∃ x, qs.getD L.toNat default = x := ⟨_, rfl⟩
  obtain ⟨g, hge0⟩ : ∃ x, hs.getD L.toNat default = x := ⟨_, rfl⟩
  rw [hge0] at c1
  have hgeq : ∀ a : List A, ((qs.map ovL).set L.toNat a)[L.toNat]? = some a := fun a => List.getElem?_set_self (by rw [List.length_map]; omega)
  have hrdq : ∀ a : A, rdCells ((qs.map ovL).set L.toNat [a]) L.toNat 0 1 = some [a] := fun a => by simp only [rdCells, hgeq]; rfl
  have hssq : ∀ a b : List A, ((qs.map ovL).set L.toNat a).set L.toNat b = (qs.map ovL).set L.toNat b := fun a b => List.set_set ..
  have hgeh : ∀ a : List A, ((hs.map ovL).set L.toNat a)[L.toNat]? = some a := fun a => List.getElem?_set_self (by rw [List.length_map]; omega)
  have hrdh : ∀ a : A, rdCells ((hs.map ovL).set L.toNat [a]) L.toNat 0 1 = some [a] := fun a => by simp only [rdCells, hgeh]; rfl
  have hssh : ∀ a b : List A, ((hs.map ovL).set L.toNat a).set L.toNat b = (hs.map ovL).set L.toNat b := fun a b => List.set_set ..
  obtain ⟨x, hxe⟩ : ∃ x, xs.getD k default = x := ⟨_, rfl⟩
  have hwn : ¬ (wAtK ps xs k).1 = 0 := by rw [c0]; decide
  obtain ⟨hlt, hreg, hop⟩ := k_reg hst hkp hwn
  have hl24 := progOk_len (pg_ok hst.net hkp)
  have hxl : x.rs.length = 4 := by rw [← hxe]; exact actOk_len (hst.act k hkp)
  have hxr : x.rs.length < 17592186044416 := by omega
  clear hxl
  unfold opK at hreg
  have htk : tokK ps ks xs qs k = 0 := by unfold tokK; rw [if_neg (by omega)]
  have hXK : xs.set k ⟨stepPc ((ps.getD k default).l.getD x.pc.toNat default) x.pc x.rs, stepRs ((ps.getD k default).l.getD x.pc.toNat default) x.rs 0⟩ = xsK ps ks xs qs k := by unfold xsK newA opK; rw [htk, hxe]
  have hWK : stepW ((ps.getD k default).l.getD x.pc.toNat default) x.rs = wrK ps xs k := by unfold wrK opK; rw [hxe]
  have hHK : hsK ps ks xs hs k = hs.set L.toNat (g ++ [wrK ps xs k]) := by unfold hsK; rw [if_pos c0, hL, hge0]
  have hQK : qsK ps ks xs qs k = qs.set L.toNat (q ++ [wrK ps xs k]) := by unfold qsK; rw [if_neg (by omega), if_pos c0, hL, hqe]
  rw [hxe] at hlt hreg hpc0 hpc1
  clear hop hwn
  have hqb : q.length ≤ 400 := by rw [← hqe]; exact hsq L.toNat g5
  have hgb : g.length ≤ 400 := by rw [← hge0]; exact hsh L.toNat g6
  have hb1 : ((q.length + 1 : Nat) : Int) ≤ 4611686018427387904 := by omega
  have hb2 : (q.length + 1) * 8 ≤ 70368744177664 := by omega
  have hb3 : ((g.length + 1 : Nat) : Int) ≤ 4611686018427387904 := by omega
  have hb4 : (g.length + 1) * 8 ≤ 70368744177664 := by omega
  have hapq : q.map iv ++ [[.int .i64 (wrK ps xs k)]] = (q ++ [wrK ps xs k]).map iv := by simp [iv]
  have hapg : g.map iv ++ [[.int .i64 (wrK ps xs k)]] = (g ++ [wrK ps xs k]).map iv := by simp [iv]
  clear hqb hgb
  have htq : ∀ r : List Int, List.take qs.length ((qs.set L.toNat r).map ovL) = (qs.set L.toNat r).map ovL := fun r => List.take_of_length_le (by simp)
  have hth : ∀ r : List Int, List.take hs.length ((hs.set L.toNat r).map ovL) = (hs.set L.toNat r).map ovL := fun r => List.take_of_length_le (by simp)
  refine G.rg tab_ok ok_r_step (hk := ?_)
  apply G.seq
  refine G.rg tab_ok ok_r_step (hk := ?_)
  apply G.seq
  apply G.seq
  refine G.rg tab_ok ok_r_step (hk := ?_)
  refine G.iffF (h2 := ?_)
  apply G.skip
  apply G.seq
  refine G.focus 0 0 2 rfl rfl rfl ?_
  simp only [withH, List.set_cons_succ, List.set_cons_zero, List.nil_append, List.cons_append, List.length_cons, List.length_nil, List.length_map, Nat.zero_add, Nat.reduceAdd]
  refine G.focusE 1 k 1 (f := oav) (l := xs) (sz' := 1) (es' := x.rs.map iv) rfl hkx (by rw [hxe]; rfl) ?_
  rw [hxe]
  simp only [withH, List.set_cons_succ, List.set_cons_zero, List.nil_append, List.cons_append, List.length_cons, List.length_nil, List.length_map, Nat.zero_add, Nat.reduceAdd]
  simp only [oav_eq, List.set_cons_succ, List.set_cons_zero]
  refine G.drM 17 16 [0, 1, 2, 3, 4, 5, 6, 7, 8, 9, 10, 11, 12, 13, 14, 15] [1, 2] en_implStepK (implStepK_mc _ (ps.getD k default).i (ps.getD k default).o (ps.getD k default).l x.pc x.rs 0 (xs.map oav) k rfl hpc0 hlt hl24 hreg (by simpa using hkx) (pureLL_oav xs)) mixed tab_ok ok_r_step (h := ?_)
  refine AnyL.gu (n := 0) 17 [0, 1, 2, 3, 4, 5, 6, 7, 8, 9, 10, 11, 12, 13, 14, 15, 17] (h := ?_)
  refine AnyL.lf [0, 4, 5, 7, 61, 62, 63, 64, 65, 66, 67, 68, 69, 70, 71, 72, 73, 74, 75, 76, 77, 78, 79, 80, 81, 82, 83, 84, 85, 86, 87, 88, 89, 90, 91, 92, 93, 94, 95, 96] (hk := ?_)
  refine G.unfocusE 1 k 1 2 (f := oav) (l := xs) ⟨stepPc ((ps.getD k default).l.getD x.pc.toNat default) x.pc x.rs, stepRs ((ps.getD k default).l.getD x.pc.toNat default) x.rs 0⟩ rfl hkx rfl rfl (by decide) (by simp [stepRs_len]) (pureLL_iv _) rfl ?_
  simp only [withH, List.set_cons_succ, List.set_cons_zero, List.nil_append, List.cons_append, List.length_cons, List.length_nil, List.length_map, Nat.zero_add, Nat.reduceAdd]
  rw [hXK]
  refine G.unfocus 0 0 2 1 rfl rfl rfl rfl (by decide) (by simp [xsK_len]) (pureLL_oav _) ?_
  simp only [withH, List.set_cons_succ, List.set_cons_zero, List.nil_append, List.cons_append, List.length_cons, List.length_nil, List.length_map, Nat.zero_add, Nat.reduceAdd]
  simp only [List.drop_zero, hta]
  apply G.seq
  apply G.seq
  refine G.rg tab_ok ok_r_step (hk := ?_)
  refine G.iffT (h1 := ?_)
  apply G.seq
  refine G.fg [0, 5, 7, 61, 62, 63, 64, 65, 66, 67, 68, 69, 70, 71, 72, 73, 74, 75, 76, 77, 78, 79, 80, 81, 82, 83, 84, 85, 86, 87, 88, 89, 90, 91, 92, 93, 94, 95, 96] (hk := ?_)
  refine G.focus 0 0 3 rfl rfl rfl ?_
  simp only [withH, List.set_cons_succ, List.set_cons_zero, List.nil_append, List.cons_append, List.length_cons, List.length_nil, List.length_map, Nat.zero_add, Nat.reduceAdd]
  refine G.focusO 3 L.toNat (outs := qs) rfl g5 ?_
  rw [hqe]
  simp only [withH, List.set_cons_succ, List.set_cons_zero, List.nil_append, List.cons_append, List.length_cons, List.length_nil, List.length_map, Nat.zero_add, Nat.reduceAdd]
  apply G.joinR
  ·intro hk
   refine G.drawL (c := ⟨Try.prog, tab, _, _, _, _, _⟩) mixed tab_ok ok_r_step 19 ?_ rfl
   refine AnyL.gg (n := 5) 14 [0, 1, 2, 3, 5, 6, 7, 8, 9, 10, 11, 12, 13, 14] (h := ?_)
   refine AnyL.fk2 (n := 4) 4 15 (k1 := ?_) (k2 := ?_)
   ·skip
    refine AnyL.gg (n := 0) 4 [15, 16, 17, 18] (h := ?_)
    exact AnyL.lf [0, 5, 7, 79, 80, 81, 82, 83, 84, 85, 86, 87, 88, 89, 90, 91, 92, 93, 94, 95, 96] (hk := hk)
   ·skip
    refine AnyL.fk2 (n := 3) 4 16 (k1 := ?_) (k2 := ?_)
    ·skip
     refine AnyL.gg (n := 0) 3 [16, 17, 18] (h := ?_)
     exact AnyL.lf [0, 5, 7, 79, 80, 81, 82, 83, 84, 85, 86, 87, 88, 89, 90, 91, 92, 93, 94, 95, 96] (hk := hk)
    ·skip
     refine AnyL.gg (n := 0) 3 [4, 17, 18] (h := ?_)
     exact AnyL.lf [0, 5, 7, 79, 80, 81, 82, 83, 84, 85, 86, 87, 88, 89, 90, 91, 92, 93, 94, 95, 96] (hk := hk)
  refine G.unfocusO 3 L.toNat 6 (r := q ++ [wrK ps xs k]) rfl rfl (by decide) (by simp) g5 ?_
  refine G.unfocus 0 0 3 3 rfl rfl rfl rfl (by decide) (by simp) (pureLL_ovL _) ?_
  simp only [withH, List.set_cons_succ, List.set_cons_zero, List.nil_append, List.cons_append, List.length_cons, List.length_nil, List.length_map, Nat.zero_add, Nat.reduceAdd]
  simp only [List.drop_zero, htq]
  refine G.focus 0 0 4 rfl rfl rfl ?_
  simp only [withH, List.set_cons_succ, List.set_cons_zero, List.nil_append, List.cons_append, List.length_cons, List.length_nil, List.length_map, Nat.zero_add, Nat.reduceAdd]
  refine G.focusO 7 L.toNat (outs := hs) rfl g6 ?_
  rw [hge0]
  simp only [withH, List.set_cons_succ, List.set_cons_zero, List.nil_append, List.cons_append, List.length_cons, List.length_nil, List.length_map, Nat.zero_add, Nat.reduceAdd]
  apply G.joinR
  ·intro hk
   refine G.drawL (c := ⟨Try.prog, tab, _, _, _, _, _⟩) mixed tab_ok ok_r_step 19 ?_ rfl
   refine AnyL.gg (n := 5) 14 [0, 1, 2, 3, 5, 6, 7, 8, 9, 10, 11, 12, 13, 14] (h := ?_)
   refine AnyL.fk2 (n := 4) 4 15 (k1 := ?_) (k2 := ?_)
   ·skip
    refine AnyL.gg (n := 0) 4 [15, 16, 17, 18] (h := ?_)
    exact AnyL.lf [0] (hk := hk)
   ·skip
    refine AnyL.fk2 (n := 3) 4 16 (k1 := ?_) (k2 := ?_)
    ·skip
     refine AnyL.gg (n := 0) 3 [16, 17, 18] (h := ?_)
     exact AnyL.lf [0] (hk := hk)
    ·skip
     refine AnyL.gg (n := 0) 3 [4, 17, 18] (h := ?_)
     exact AnyL.lf [0] (hk := hk)
  refine G.unfocusO 7 L.toNat 10 (r := g ++ [wrK ps xs k]) rfl rfl (by decide) (by simp) g6 ?_
  refine G.unfocus 0 0 4 7 rfl rfl rfl rfl (by decide) (by simp) (pureLL_ovL _) ?_
  simp only [withH, List.set_cons_succ, List.set_cons_zero, List.nil_append, List.cons_append, List.length_cons, List.length_nil, List.length_map, Nat.zero_add, Nat.reduceAdd]
  simp only [List.drop_zero, hth]
  refine G.fg [0] (hk := ?_)
  refine G.rg tab_ok ok_r_step (hk := ?_)
  refine G.doneN (junk := [none, none, none, none, some (1, [[.int .i64 (wrK ps xs k)]]), none, none, none, some (1, [[.int .i64 (wrK ps xs k)]]), none]) (xs := []) tab_ok rfl rfl ?_ ?_ ?_ ?_ ?_
  ·rfl
  ·rw [hQK, hHK]; rfl
  ·rfl
  ·simp [hrefs, refLL, refL, refA, pureLL_ref, pureLL_oav, pureLL_ovL, pureLL_pv, pureLL_kv]
  ·rw [hφ0]; exact Nat.le_refl _
theorem ok_r_may : Kn.ok Try.prog (kof [(84, q_r_can)]) := kof_cons k_r_can ((kof_nil _))
theorem r_may_ac (ps : List PG) (ks : List LK) (xs : List AT) (qs : List (List Int)) (hs : List (List Int)) (t : Int) (k : Nat) (hc1 : stOk ps ks xs qs hs t = true) (hc2 : k < ps.length) : AC Try.prog 144 [.rp 9 [[.row false 3 (ps.map pv), .row false 5 (ks.map kv), .row false 2 (xs.map av), .row false 1 (qs.map ivL), .row false 1 (hs.map ivL), .int .i64 t, .row false 1 ((toT ps ks ks.length).map ivL), .row false 1 ((frT ps ks ks.length).map ivL), .nils]] 0 0, .int .i64 (k : Int)] (.bool (canK ps ks xs qs hs t k)) := by
 have e_r_can := e_r_can
 have hst := stOk_w hc1
 have hnw := netOk_w hst.net
 have hp12 := hnw.pl
 have hk30 := hnw.kl
 have hx1 : xs.length ≤ ps.length := Nat.le_of_eq hst.xl
 have hx2 : ps.length ≤ xs.length := Nat.le_of_eq hst.xl.symm
 have hq1 : qs.length ≤ ks.length := Nat.le_of_eq hst.ql
 have hq2 : ks.length ≤ qs.length := Nat.le_of_eq hst.ql.symm
 have hh1 : hs.length ≤ ks.length := Nat.le_of_eq hst.hl
 have hh2 : ks.length ≤ hs.length := Nat.le_of_eq hst.hl.symm
 have ht0 := hst.t0
 have ht1 := hst.t1
 have hsq := st_q hst
 have hsh := st_h hst
 have hsa := st_a hst
 have hkw := net_KW hst.net
 have hksB : ks.length < 2513169434844 := by omega
 have hpsB : ps.length < 3518437208781 := by omega
 have hft : (false == true) = false := rfl
 have htf : (true == false) = false := rfl
 have hivl := ivL_eq
 have hro := roLL_ovL
 have hpov := pureLL_ovL
 have hnov := noLoanLL_ovL
 have hpiv := pureLL_ivL
 have hriv := roLL_ivL
 have hkp : k < ps.length := hc2
 have hkx : k < xs.length := by omega
 have hki : (k : Int) < (ps.length : Int) := by omega
 have hkj : (k : Int) < (xs.length : Int) := by omega
 have hpc := st_pc hst hkp
 have hpc0 := hpc.1
 have hpc1 := hpc.2
 clear hpc
 have b00 : ((0 : Int) == 0) = true := rfl
 have b01 : ((0 : Int) == 1) = false := rfl
 have b02 : ((0 : Int) == 2) = false := rfl
 have b03 : ((0 : Int) == 3) = false := rfl
 have b10 : ((1 : Int) == 0) = false := rfl
 have b11 : ((1 : Int) == 1) = true := rfl
 have b12 : ((1 : Int) == 2) = false := rfl
 have b13 : ((1 : Int) == 3) = false := rfl
 have b20 : ((2 : Int) == 0) = false := rfl
 have b21 : ((2 : Int) == 1) = false := rfl
 have b22 : ((2 : Int) == 2) = true := rfl
 have b23 : ((2 : Int) == 3) = false := rfl
 have b30 : ((3 : Int) == 0) = false := rfl
 have b31 : ((3 : Int) == 1) = false := rfl
 have b32 : ((3 : Int) == 2) = false := rfl
 have b33 : ((3 : Int) == 3) = true := rfl
 refine AC.of tab_ok Try.func144 rfl (Nat.le_of_ble_eq_true rfl) fun w0 S0 => ?_
 change G _ _ ⟨[(0, .rp 9 [[.row false 3 (ps.map pv), .row false 5 (ks.map kv), .row false 2 (xs.map av), .row false 1 (qs.map ivL), .row false 1 (hs.map ivL), .int .i64 t, .row false 1 ((toT ps ks ks.length).map ivL), .row false 1 ((frT ps ks ks.length).map ivL), .nils]] 0 0), (1, .int .i64 (k : Int))], [], 60⟩
 apply G.seq
 refine G.rg tab_ok ok_r_may (hk := ?_)
 apply G.seq
 apply G.seq
 rcases (show canK ps ks xs qs hs t k = true ∨ canK ps ks xs qs hs t k = false by cases canK ps ks xs qs hs t k <;> simp) with c0 | c0
 ·skip
  refine G.rgN 5 tab_ok ok_r_may (hk := ?_)
  refine G.rdN 4 tab_ok ok_r_may (hk := ?_)
  refine G.want (by exact rfl) ?_
  refine G.eqNN tab_ok rfl rfl rfl rfl rfl rfl ?_
  refine G.rdC tab_ok ok_r_may (hk := ?_)
  refine G.iffT (h1 := ?_)
  apply G.seq
  refine G.rg tab_ok ok_r_may (hk := ?_)
  refine G.fin tab_ok (hr := ?_)
  simp only [oneOrTup, c0]
 ·skip
  refine G.rgN 5 tab_ok ok_r_may (hk := ?_)
  refine G.rdN 2 tab_ok ok_r_may (hk := ?_)
  refine G.rdN 2 tab_ok ok_r_may (hk := ?_)
  refine G.rdC tab_ok ok_r_may (hk := ?_)
  refine G.iffT (h1 := ?_)
  apply G.seq
  refine G.rg tab_ok ok_r_may (hk := ?_)
  refine G.fin tab_ok (hr := ?_)
  simp only [oneOrTup, c0]
def r_r_may (xs0 : List A) (rr : A) : Prop := ∃ (ps : List PG) (ks : List LK) (xs : List AT) (qs : List (List Int)) (hs : List (List Int)) (t : Int) (k : Nat), (stOk ps ks xs qs hs t = true) ∧ (k < ps.length) ∧ xs0 = [.rp 9 [[.row false 3 (ps.map pv), .row false 5 (ks.map kv), .row false 2 (xs.map av), .row false 1 (qs.map ivL), .row false 1 (hs.map ivL), .int .i64 t, .row false 1 ((toT ps ks ks.length).map ivL), .row false 1 ((frT ps ks ks.length).map ivL), .nils]] 0 0, .int .i64 (k : Int)] ∧ rr = .bool (canK ps ks xs qs hs t k)
noncomputable def q_r_may : List A → Option A := kgr r_r_may
theorem k_r_may : KOk Try.prog (144, q_r_may) := kgr_ok (enters_of Try.func144 rfl rfl) (by rintro xs0 rr ⟨ps, ks, xs, qs, hs, t, k, hc1, hc2, rfl, rfl⟩; exact r_may_ac ps ks xs qs hs t k hc1 hc2)
theorem e_r_may : ∀ (ps : List PG) (ks : List LK) (xs : List AT) (qs : List (List Int)) (hs : List (List Int)) (t : Int) (k : Nat), (stOk ps ks xs qs hs t = true) → (k < ps.length) → q_r_may [.rp 9 [[.row false 3 (ps.map pv), .row false 5 (ks.map kv), .row false 2 (xs.map av), .row false 1 (qs.map ivL), .row false 1 (hs.map ivL), .int .i64 t, .row false 1 ((toT ps ks ks.length).map ivL), .row false 1 ((frT ps ks ks.length).map ivL), .nils]] 0 0, .int .i64 (k : Int)] = some (.bool (canK ps ks xs qs hs t k)) := by
 intro ps ks xs qs hs t k hc1 hc2
 refine kgr_eq (fun xs0 rr r2 h h2 => ?_) ⟨ps, ks, xs, qs, hs, t, k, hc1, hc2, rfl, rfl⟩
 obtain ⟨ps1, ks1, xs1, qs1, hs1, t1, k1, _, _, e1, rfl⟩ := h; obtain ⟨ps2, ks2, xs2, qs2, hs2, t2, k2, _, _, e2, rfl⟩ := h2
 rw [e1] at e2
 simp only [List.cons.injEq, A.int.injEq, A.rp.injEq, A.row.injEq, pv_inj, kv_inj, av_inj, ivL_inj, true_and, and_true, Int.natCast_inj] at e2
 obtain ⟨⟨e3, e4, e5, e6, e7, e8, _, _⟩, e9⟩ := e2
 subst e3 e4 e5 e6 e7 e8 e9
 rfl
theorem nothing_mc (h : Heap)  (hc1 : h = []) : MC Try.prog 68 h [] (.tup []) ([]) := by
 subst hc1
 refine MC.of tab_ok Try.func68 rfl (Nat.le_of_ble_eq_true rfl) fun w0 S0 fs0 φ0 hφ0 hq0 => ?_
 change G _ _ ⟨[], _, 0⟩
 apply G.skip
 refine G.doneN (junk := []) (xs := []) tab_ok rfl rfl rfl rfl rfl rfl (by rw [hφ0]; exact Nat.le_refl _)
theorem ok_r_turns : Kn.ok Try.prog (kof [(144, q_r_may)]) := kof_cons k_r_may ((kof_nil _))
theorem en_r_step : Enters Try.prog 85 := enters_of Try.func85 rfl rfl
theorem en_nothing : Enters Try.prog 68 := enters_of Try.func68 rfl rfl
theorem r_turns_mc (h : Heap) (ps : List PG) (ks : List LK) (xs : List AT) (qs : List (List Int)) (hs : List (List Int)) (t : Int) (most : Int) (hc1 : h = [some (9, [[.row false 3 (ps.map pv), .row false 5 (ks.map kv), .row true 2 (xs.map oav), .row true 1 (qs.map ovL), .row true 1 (hs.map ovL), .int .i64 t, .row true 1 ((toT ps ks ks.length).map ovL), .row true 1 ((frT ps ks ks.length).map ovL), .nils]])]) (hc2 : stOk ps ks xs qs hs t = true) : MC Try.prog 67 h [.ptr 0 0 0, .int .i64 most, .fn 68 []] (.tup []) ([some (9, [[.row false 3 (ps.map pv), .row false 5 (ks.map kv), .row true 2 ((turnsO ps ks most (xs, qs, hs, t)).1.map oav), .row true 1 ((turnsO ps ks most (xs, qs, hs, t)).2.1.map ovL), .row true 1 ((turnsO ps ks most (xs, qs, hs, t)).2.2.1.map ovL), .int .i64 (turnsO ps ks most (xs, qs, hs, t)).2.2.2, .row true 1 ((toT ps ks ks.length).map ovL), .row true 1 ((frT ps ks ks.length).map ovL), .nils]])]) := by
  have e_r_may := e_r_may
  subst hc1
  have hst := stOk_w hc2
  have hnw := netOk_w hst.net
  have hp12 := hnw.pl
  have hk30 := hnw.kl
  have hx1 : xs.length ≤ ps.length := Nat.le_of_eq hst.xl
  have hx2 : ps.length ≤ xs.length := Nat.le_of_eq hst.xl.symm
  have hq1 : qs.length ≤ ks.length := Nat.le_of_eq hst.ql
  have hq2 : ks.length ≤ qs.length := Nat.le_of_eq hst.ql.symm
  have hh1 : hs.length ≤ ks.length := Nat.le_of_eq hst.hl
  have hh2 : ks.length ≤ hs.length := Nat.le_of_eq hst.hl.symm
  have ht0 := hst.t0
  have ht1 := hst.t1
  have hsq := st_q hst
  have hsh := st_h hst
  have hsa := st_a hst
  have hkw := net_KW hst.net
  have hksB : ks.length < 2513169434844 := by omega
  have hpsB : ps.length < 3518437208781 := by omega
  have hft : (false == true) = false := rfl
  have htf : (true == false) = false := rfl
  have hivl := ivL_eq
  have hro := roLL_ovL
  have hpov := pureLL_ovL
  have hnov := noLoanLL_ovL
  have hpiv := pureLL_ivL
  have hriv := roLL_ivL
  have hok0 : okS ps ks (xs, qs, hs, t) := hc2
  have hrq := roLL_ovL
  have hra := roLL_oav
  obtain ⟨R, hR⟩ : ∃ x, turnsF ps ks most 20001 (xs, qs, hs, t) 0 = x := ⟨_, rfl⟩
  have hRO : turnsO ps ks most (xs, qs, hs, t) = R.1 := by unfold turnsO; rw [hR]
  rw [hRO]
  clear hRO hst hx1 hx2 hq1 hq2 hh1 hh2 ht1 hsq hsh hsa
  refine MC.of tab_ok Try.func67 rfl (Nat.le_of_ble_eq_true rfl) fun w0 S0 fs0 φ0 hφ0 hq0 => ?_
  change G _ _ ⟨[(0, .ptr 0 0 0), (1, .int .i64 most), (2, .fn 68 [])], _, 33⟩
  apply G.seq
  refine G.rg tab_ok ok_r_turns (hk := ?_)
  apply G.seq
  refine G.rg tab_ok ok_r_turns (hk := ?_)
  apply G.block
  refine G.fg [0, 1, 2, 6, 7] (hk := ?_)
  refine G.loopX (fun x : SX × Nat × Bool × Nat => ⟨[(0, .ptr 0 0 0), (1, .int .i64 most), (2, .fn 68 []), (6, .int .i64 (x.2.1 : Nat)), (7, .bool x.2.2.1)], [some (9, [[.row false 3 (ps.map pv), .row false 5 (ks.map kv), .row true 2 (x.1.1.map oav), .row true 1 (x.1.2.1.map ovL), .row true 1 (x.1.2.2.1.map ovL), .int .i64 x.1.2.2.2, .row true 1 ((toT ps ks ks.length).map ovL), .row true 1 ((frT ps ks ks.length).map ovL), .nils]])], 33⟩) (fun x => okS ps ks x.1 ∧ (x.2.1 : Int) ≤ x.1.2.2.2 ∧ (x.2.2.1 = true → turnsF ps ks most x.2.2.2 x.1 x.2.1 = R ∧ (20001 : Int) ≤ (x.2.2.2 : Int) + x.1.2.2.2) ∧ (x.2.2.1 = false → R = (x.1, x.2.1))) (fun x => if x.2.2.1 = true then x.2.2.2 + 1 else 0) (((xs, qs, hs, t), 0, true, 20001)) (⟨hok0, by simpa using ht0, fun _ => ⟨hR, by simp only; omega⟩, fun h => by cases h⟩) (rfl) ?_
  intro x hx J2 hJ2
  obtain ⟨⟨xa, qa, ha, ta⟩, n, ag, f⟩ := x
  simp only at hx ⊢
  obtain ⟨hok, hnt, hgo, hen⟩ := hx
  have htb := okS_t hok
  simp only at htb
  apply G.seq
  apply G.seq
  refine G.rg tab_ok ok_r_turns (hk := ?_)
  refine G.iff (h1 := fun h1 => ?_) (h2 := fun h1 => ?_)
  · try simp only [zqz] at h1
    apply G.skip
    apply G.block
    apply G.seq
    subst h1
    obtain ⟨hgo, hft⟩ := hgo rfl
    have hf0 : 0 < f := by omega
    obtain ⟨P, hP⟩ : ∃ x, passF ps ks most ps.length (xa, qa, ha, ta) n false = x := ⟨_, rfl⟩
    refine G.rg tab_ok ok_r_turns (hk := ?_)
    apply G.seq
    refine G.rg tab_ok ok_r_turns (hk := ?_)
    apply G.block
    refine G.fg [0, 1, 2, 6, 7, 15, 16] (hk := ?_)
    refine G.loopX (fun x : SX × Nat × Bool × Nat => ⟨[(0, .ptr 0 0 0), (1, .int .i64 most), (2, .fn 68 []), (6, .int .i64 (x.2.1 : Nat)), (7, .bool x.2.2.1), (15, .int .i64 ps.length), (16, .int .i64 (x.2.2.2 : Nat))], [some (9, [[.row false 3 (ps.map pv), .row false 5 (ks.map kv), .row true 2 (x.1.1.map oav), .row true 1 (x.1.2.1.map ovL), .row true 1 (x.1.2.2.1.map ovL), .int .i64 x.1.2.2.2, .row true 1 ((toT ps ks ks.length).map ovL), .row true 1 ((frT ps ks ks.length).map ovL), .nils]])], 33⟩) (fun y => okS ps ks y.1 ∧ y.2.2.2 ≤ ps.length ∧ (y.2.1 : Int) ≤ y.1.2.2.2 ∧ passF ps ks most (ps.length - y.2.2.2) y.1 y.2.1 y.2.2.1 = P ∧ (y.2.2.1 = true → ta < y.1.2.2.2) ∧ ta ≤ y.1.2.2.2) (fun y => ps.length - y.2.2.2) (((xa, qa, ha, ta), n, false, 0)) (⟨hok, Nat.zero_le _, hnt, hP, (fun h => by cases h), Int.le_refl _⟩) (rfl) ?_
    intro y hy J hJ
    obtain ⟨⟨xb, qb, hb, tb⟩, n2, ag2, j⟩ := y
    simp only at hy ⊢
    obtain ⟨hok2, hj, hnt2, hpa, hag, htt⟩ := hy
    have hs2 : stOk ps ks xb qb hb tb = true := hok2
    have htb2 := okS_t hok2
    simp only at htb2
    have hw : IntKind.i64.wrap ((j : Int) + 1) = (j : Int) + 1 := wrap64 (by omega) (by omega)
    have hwn : IntKind.i64.wrap ((n2 : Int) + 1) = ((n2 + 1 : Nat) : Int) := by rw [wrap64 (by omega) (by omega)]; omega
    have hwj : IntKind.i64.wrap ((j : Int) + 1) = ((j + 1 : Nat) : Int) := by rw [wrap64 (by omega) (by omega)]; omega
    clear hw
    apply G.seq
    refine G.rg tab_ok ok_r_turns (hk := ?_)
    apply G.seq
    refine G.iff (h1 := fun h2 => ?_) (h2 := fun h2 => ?_)
    · try simp only [zqz] at h2
      apply G.skip
      apply G.seq
      apply G.block
      apply G.seq
      have hjp : j < ps.length := by omega
      have hji : (j : Int) < (ps.length : Int) := by omega
      refine G.rg tab_ok ok_r_turns (hk := ?_)
      apply G.seq
      apply G.seq
      refine G.rg tab_ok ok_r_turns (hk := ?_)
      refine G.iff (h1 := fun h3 => ?_) (h2 := fun h3 => ?_)
      · try simp only [zqz] at h3
        have hPe := pass_stop (by omega) (by omega) hpa
        have hRe := turn_stop hf0 hgo hP (by rw [hPe])
        rw [hPe] at hRe
        subst hRe
        refine G.doneM (junk := []) (xs := []) tab_ok rfl rfl ?_ ?_ ?_ ?_ ?_
        · rfl
        · rfl
        · rfl
        · simp [hrefs, refLL, refL, refA, pureLL_ref, pureLL_oav, pureLL_ovL, pureLL_pv, pureLL_kv]
        · rw [hφ0]; exact Nat.le_refl _
      · try simp only [zqz] at h3
        apply G.skip
        apply G.seq
        have hmo : ¬ most ≤ (n2 : Int) := by omega
        refine G.rg tab_ok ok_r_turns (hk := ?_)
        refine G.fg [0, 1, 2, 6, 7, 8, 15, 16, 24] (hk := ?_)
        refine G.iff (h1 := fun h4 => ?_) (h2 := fun h4 => ?_)
        · try simp only [zqz] at h4
          apply G.seq
          refine G.rgN 2 tab_ok ok_r_turns (hk := ?_)
          refine G.cf [0] en_r_step (r_step_mc _ ps ks xb qb hb tb j rfl hs2 hjp h4) (h := ?_)
          refine G.rgC tab_ok ok_r_turns (hk := ?_)
          apply G.seq
          refine G.rg tab_ok ok_r_turns (hk := ?_)
          apply G.seq
          refine G.rg tab_ok ok_r_turns (hk := ?_)
          refine G.rgN 1 tab_ok ok_r_turns (hk := ?_)
          refine G.cf [] en_nothing (nothing_mc _ rfl) (h := ?_)
          refine G.rgC tab_ok ok_r_turns (hk := ?_)
          apply G.blk
          skip
          refine G.rg tab_ok ok_r_turns (hk := ?_)
          refine G.fg [0, 1, 2, 6, 7, 15, 16] (hk := ?_)
          first
          | (have hcc : canK ps ks xb qb hb tb j = true := h4
             exact G.upto (hJ (nextS ps ks (xb, qb, hb, tb) j, n2 + 1, true, j + 1) ⟨okS_next hok2 hjp hcc, by simp only; omega, by simp only [nextS]; omega, pass_yes hjp hmo hcc hpa, fun _ => by simp only [nextS]; omega, by simp only [nextS]; omega⟩ (by simp only; omega)) (by simp [nextS]))
          | (have hcc : canK ps ks xb qb hb tb j = false := h4
             exact G.upto (hJ ((xb, qb, hb, tb), n2, ag2, j + 1) ⟨hok2, by simp only; omega, hnt2, pass_no hjp hmo hcc hpa, hag, htt⟩ (by simp only; omega)) (by simp))
        · try simp only [zqz] at h4
          apply G.skip
          apply G.blk
          skip
          refine G.rg tab_ok ok_r_turns (hk := ?_)
          refine G.fg [0, 1, 2, 6, 7, 15, 16] (hk := ?_)
          first
          | (have hcc : canK ps ks xb qb hb tb j = true := h4
             exact G.upto (hJ (nextS ps ks (xb, qb, hb, tb) j, n2 + 1, true, j + 1) ⟨okS_next hok2 hjp hcc, by simp only; omega, by simp only [nextS]; omega, pass_yes hjp hmo hcc hpa, fun _ => by simp only [nextS]; omega, by simp only [nextS]; omega⟩ (by simp only; omega)) (by simp [nextS]))
          | (have hcc : canK ps ks xb qb hb tb j = false := h4
             exact G.upto (hJ ((xb, qb, hb, tb), n2, ag2, j + 1) ⟨hok2, by simp only; omega, hnt2, pass_no hjp hmo hcc hpa, hag, htt⟩ (by simp only; omega)) (by simp))
    · try simp only [zqz] at h2
      refine G.exit rfl ?_
      apply G.blk
      refine G.fg [0, 1, 2, 6, 7] (hk := ?_)
      have hPe : P = ((xb, qb, hb, tb), n2, ag2, false) := by
        obtain rfl : j = ps.length := by omega
        rw [← hpa, Nat.sub_self]
        rfl
      exact G.upto (hJ2 ((xb, qb, hb, tb), n2, ag2, f - 1) ⟨hok2, hnt2, fun h => ⟨by have := turn_go hf0 hgo hP (by rw [hPe]) (by rw [hPe]; exact h); rw [hPe] at this; exact this, by simp only; have := hag h; omega⟩, fun h => by have := turn_end hf0 hgo hP (by rw [hPe]) (by rw [hPe]; exact h); rw [hPe] at this; exact this⟩ (by simp only; split <;> simp <;> omega)) (by simp)
  · try simp only [zqz] at h1
    refine G.exit rfl ?_
    obtain rfl := hen (by simpa using h1)
    refine G.doneN (junk := []) (xs := []) tab_ok rfl rfl ?_ ?_ ?_ ?_ ?_
    · rfl
    · rfl
    · rfl
    · simp [hrefs, refLL, refL, refA, pureLL_ref, pureLL_oav, pureLL_ovL, pureLL_pv, pureLL_kv]
    · rw [hφ0]; exact Nat.le_refl _
theorem ok_implRunTurns : Kn.ok Try.prog (kof [(65, q_implIsState), (66, q_newRun)]) := kof_cons k_implIsState (kof_cons k_newRun ((kof_nil _)))
theorem en_r_turns : Enters Try.prog 67 := enters_of Try.func67 rfl rfl
theorem en_r_quiet : Enters Try.prog 69 := enters_of Try.func69 rfl rfl
theorem implRunTurns_ac (ps : List PG) (ks : List LK) (xs : List AT) (qs : List (List Int)) (hs : List (List Int)) (t : Int) (most : Int) (hc1 : NW ps) (hc2 : KW ks) (hc3 : ps.length < 3518437208781) (hc4 : ks.length < 2513169434844) (hc5 : XW xs) (hc6 : xs.length < 4398046511104) (hc7 : qs.length < 5864062014805) (hc8 : LW qs) (hc9 : hs.length < 5864062014805) (hc10 : LW hs) (hc11 : stOk ps ks xs qs hs t = true) : AC Try.prog 13 [.agg [.row false 3 (ps.map pv), .row false 5 (ks.map kv)], .agg [.row false 2 (xs.map av), .row false 1 (qs.map ivL), .row false 1 (hs.map ivL), .int .i64 t], .int .i64 most] (.tup [.agg [.row true 2 ((turnsO ps ks most (xs, qs, hs, t)).1.map oav), .row true 1 ((turnsO ps ks most (xs, qs, hs, t)).2.1.map ovL), .row true 1 ((turnsO ps ks most (xs, qs, hs, t)).2.2.1.map ovL), .int .i64 (turnsO ps ks most (xs, qs, hs, t)).2.2.2], .bool (firstC ps ks (turnsO ps ks most (xs, qs, hs, t)).1 (turnsO ps ks most (xs, qs, hs, t)).2.1 (turnsO ps ks most (xs, qs, hs, t)).2.2.1 (turnsO ps ks most (xs, qs, hs, t)).2.2.2)]) := by
 have e_implIsState := e_implIsState
 have e_newRun := e_newRun
 have hivl := ivL_eq
 have hro := roLL_ovL
 have hpov := pureLL_ovL
 have hnov := noLoanLL_ovL
 have hriv := roLL_ivL
 have hrq := roLL_ovL
 have hra := roLL_oav
 have hpoa := pureLL_oav
 have hSOK := hc11
 refine AC.of tab_ok Try.func13 rfl (Nat.le_of_ble_eq_true rfl) fun w0 S0 => ?_
 change G _ _ ⟨[(0, .agg [.row false 3 (ps.map pv), .row false 5 (ks.map kv)]), (1, .agg [.row false 2 (xs.map av), .row false 1 (qs.map ivL), .row false 1 (hs.map ivL), .int .i64 t]), (2, .int .i64 most)], [], 26⟩
 apply G.seq
 refine G.rg tab_ok ok_implRunTurns (hk := ?_)
 apply G.seq
 apply G.seq
 refine G.rg tab_ok ok_implRunTurns (hk := ?_)
 refine G.iffF (h2 := ?_)
 apply G.skip
 apply G.seq
 refine G.rg tab_ok ok_implRunTurns (hk := ?_)
 apply G.seq
 refine G.rgN 2 tab_ok ok_implRunTurns (hk := ?_)
 refine G.cf [3] en_r_turns (r_turns_mc _ ps ks xs qs hs t most rfl hSOK) (h := ?_)
 refine G.rgC tab_ok ok_implRunTurns (hk := ?_)
 apply G.seq
 have hok0 : okS ps ks (xs, qs, hs, t) := hSOK
 obtain ⟨m, hrun, _⟩ := turnsO_run (most := most) hok0
 have hokR := hrun.ok hok0
 obtain ⟨R, hRR⟩ : ∃ x, turnsO ps ks most (xs, qs, hs, t) = x := ⟨_, rfl⟩
 rw [hRR] at hokR ⊢
 clear hrun hRR
 obtain ⟨xz, qz, hz, tz⟩ := R
 have hsz : stOk ps ks xz qz hz tz = true := hokR
 simp only
 refine G.focus 3 0 2 rfl rfl rfl ?_
 simp only [withH, List.set_cons_succ, List.set_cons_zero, List.nil_append, List.cons_append, List.length_cons, List.length_nil, List.length_map, Nat.zero_add, Nat.reduceAdd]
 refine G.focus 3 0 3 rfl rfl rfl ?_
 simp only [withH, List.set_cons_succ, List.set_cons_zero, List.nil_append, List.cons_append, List.length_cons, List.length_nil, List.length_map, Nat.zero_add, Nat.reduceAdd]
 refine G.focus 3 0 4 rfl rfl rfl ?_
 simp only [withH, List.set_cons_succ, List.set_cons_zero, List.nil_append, List.cons_append, List.length_cons, List.length_nil, List.length_map, Nat.zero_add, Nat.reduceAdd]
 refine G.focus 3 0 6 rfl rfl rfl ?_
 simp only [withH, List.set_cons_succ, List.set_cons_zero, List.nil_append, List.cons_append, List.length_cons, List.length_nil, List.length_map, Nat.zero_add, Nat.reduceAdd]
 refine G.focus 3 0 7 rfl rfl rfl ?_
 simp only [withH, List.set_cons_succ, List.set_cons_zero, List.nil_append, List.cons_append, List.length_cons, List.length_nil, List.length_map, Nat.zero_add, Nat.reduceAdd]
 refine G.drD 7 5 [0, 1, 2, 3, 4] [true] en_r_quiet (r_quiet_ac ps ks xz qz hz tz hsz) mixed tab_ok ok_implRunTurns (h := ?_)
 refine AnyL.gu (n := 0) 7 [0, 1, 2, 3, 4, 6, 7] (h := ?_)
 refine AnyL.lf [6, 7] (hk := ?_)
 refine G.fin tab_ok (hr := ?_)
 rfl
def r_implRunTurns (xs0 : List A) (rr : A) : Prop := ∃ (ps : List PG) (ks : List LK) (xs : List AT) (qs : List (List Int)) (hs : List (List Int)) (t : Int) (most : Int), (NW ps) ∧ (KW ks) ∧ (ps.length < 3518437208781) ∧ (ks.length < 2513169434844) ∧ (XW xs) ∧ (xs.length < 4398046511104) ∧ (qs.length < 5864062014805) ∧ (LW qs) ∧ (hs.length < 5864062014805) ∧ (LW hs) ∧ (stOk ps ks xs qs hs t = true) ∧ xs0 = [.agg [.row false 3 (ps.map pv), .row false 5 (ks.map kv)], .agg [.row false 2 (xs.map av), .row false 1 (qs.map ivL), .row false 1 (hs.map ivL), .int .i64 t], .int .i64 most] ∧ rr = .tup [.agg [.row true 2 ((turnsO ps ks most (xs, qs, hs, t)).1.map oav), .row true 1 ((turnsO ps ks most (xs, qs, hs, t)).2.1.map ovL), .row true 1 ((turnsO ps ks most (xs, qs, hs, t)).2.2.1.map ovL), .int .i64 (turnsO ps ks most (xs, qs, hs, t)).2.2.2], .bool (firstC ps ks (turnsO ps ks most (xs, qs, hs, t)).1 (turnsO ps ks most (xs, qs, hs, t)).2.1 (turnsO ps ks most (xs, qs, hs, t)).2.2.1 (turnsO ps ks most (xs, qs, hs, t)).2.2.2)]
noncomputable def q_implRunTurns : List A → Option A := kgr r_implRunTurns
theorem k_implRunTurns : KOk Try.prog (13, q_implRunTurns) := kgr_ok (enters_of Try.func13 rfl rfl) (by rintro xs0 rr ⟨ps, ks, xs, qs, hs, t, most, hc1, hc2, hc3, hc4, hc5, hc6, hc7, hc8, hc9, hc10, hc11, rfl, rfl⟩; exact implRunTurns_ac ps ks xs qs hs t most hc1 hc2 hc3 hc4 hc5 hc6 hc7 hc8 hc9 hc10 hc11)
theorem e_implRunTurns : ∀ (ps : List PG) (ks : List LK) (xs : List AT) (qs : List (List Int)) (hs : List (List Int)) (t : Int) (most : Int), (NW ps) → (KW ks) → (ps.length < 3518437208781) → (ks.length < 2513169434844) → (XW xs) → (xs.length < 4398046511104) → (qs.length < 5864062014805) → (LW qs) → (hs.length < 5864062014805) → (LW hs) → (stOk ps ks xs qs hs t = true) → q_implRunTurns [.agg [.row false 3 (ps.map pv), .row false 5 (ks.map kv)], .agg [.row false 2 (xs.map av), .row false 1 (qs.map ivL), .row false 1 (hs.map ivL), .int .i64 t], .int .i64 most] = some (.tup [.agg [.row true 2 ((turnsO ps ks most (xs, qs, hs, t)).1.map oav), .row true 1 ((turnsO ps ks most (xs, qs, hs, t)).2.1.map ovL), .row true 1 ((turnsO ps ks most (xs, qs, hs, t)).2.2.1.map ovL), .int .i64 (turnsO ps ks most (xs, qs, hs, t)).2.2.2], .bool (firstC ps ks (turnsO ps ks most (xs, qs, hs, t)).1 (turnsO ps ks most (xs, qs, hs, t)).2.1 (turnsO ps ks most (xs, qs, hs, t)).2.2.1 (turnsO ps ks most (xs, qs, hs, t)).2.2.2)]) := by
 intro ps ks xs qs hs t most hc1 hc2 hc3 hc4 hc5 hc6 hc7 hc8 hc9 hc10 hc11
 refine kgr_eq (fun xs0 rr r2 h h2 => ?_) ⟨ps, ks, xs, qs, hs, t, most, hc1, hc2, hc3, hc4, hc5, hc6, hc7, hc8, hc9, hc10, hc11, rfl, rfl⟩
 obtain ⟨ps1, ks1, xs1, qs1, hs1, t1, most1, _, _, _, _, _, _, _, _, _, _, _, e1, rfl⟩ := h; obtain ⟨ps2, ks2, xs2, qs2, hs2, t2, most2, _, _, _, _, _, _, _, _, _, _, _, e2, rfl⟩ := h2
 rw [e1] at e2
 simp only [List.cons.injEq, A.int.injEq, A.agg.injEq, A.row.injEq, pv_inj, kv_inj, av_inj, ivL_inj, true_and, and_true] at e2
 obtain ⟨⟨e1, e2⟩, ⟨e3, e4, e5, e6⟩, e7⟩ := e2
 subst e1 e2 e3 e4 e5 e6 e7
 rfl
end Go.Proofs.Ytimgfinlbhodhaa.Ab
