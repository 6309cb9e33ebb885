/- Walks of functions of the program, and the plain definitions. -/
import Derived.Test.YtdcjlemkegifjaaDoorAbPrs2
import Derived.Test.YtdcjlemkegifjaaDoorAbItJ
import Derived.Test.YtdcjlemkegifjaaDoorAbAutoW
import Derived.Test.YtdcjlemkegifjaaDoorFwGa
import Derived.Test.YtdcjlemkegifjaaDoorAbA2
import Derived.Test.YtdcjlemkegifjaaDoorAbNumW
import Derived.Test.YtdcjlemkegifjaaDoorAbA4
namespace Go.Proofs.YtdcjlemkegifjaaDoor.Ab
open Go
set_option linter.unusedVariables false
set_option linter.unusedSimpArgs false
set_option maxHeartbeats 4000000
theorem l1Split_ac (l : List UInt8) (hc1 : l.length ≤ 1048576) : AC Tryd.prog 18 [.str (sb l), .int .u8 44] (.row true 1 ((spl l).map sv)) := by
 have hv1 := pureLL_sv
 have hv2 := roLL_sv
 have hv3 := noLoanLL_sv
 have hv4 := rnLL_sv
 have hv5 := refsLL_sv
 have htl : List.take l.length l = l := List.take_length
 refine AC.of tab_ok Tryd.func18 rfl (Nat.le_of_ble_eq_true rfl) fun w0 S0 => ?_
 change G _ _ ⟨[(0, .str (sb l)), (1, .int .u8 44)], [], 35⟩
 apply G.seq
 refine G.rg tab_ok (kof_nil _) (hk := ?_)
 apply G.seq
 refine G.rg tab_ok (kof_nil _) (hk := ?_)
 apply G.seq
 refine G.rg tab_ok (kof_nil _) (hk := ?_)
 apply G.seq
 apply G.seq
 refine G.rg tab_ok (kof_nil _) (hk := ?_)
 apply G.block
 refine G.nm [0, 1, 5, 6, 7] (h := ?_)
 refine G.loopX (fun x : List (List UInt8) × Nat × Nat => ⟨[(0, .str (sb l)), (1, .int .u8 44), (5, .sl 0 0 x.1.length), (6, .int .i64 (x.2.1 : Nat)), (7, .int .i64 (x.2.2 : Nat))], [some (1, x.1.map sv)], 35⟩) (fun x => x.2.2 ≤ l.length ∧ x.2.1 ≤ x.2.2 ∧ x.1 ++ spl (l.drop x.2.1) = spl l ∧ (∀ y ∈ (l.take x.2.2).drop x.2.1, y ≠ 44) ∧ x.1.length ≤ x.2.2) (fun x => l.length - x.2.2) (([], 0, 0)) (⟨Nat.zero_le _, Nat.le_refl _, by simp, by simp, Nat.le_refl _⟩) (by simp) ?_
 intro x hx J hJ
 obtain ⟨outs, fr, i⟩ := x
 simp only at hx ⊢
 obtain ⟨hi, hf, hsp, hno, hol⟩ := hx
 have hwi : IntKind.i64.wrap ((i : Int) + 1) = ((i + 1 : Nat) : Int) := by rw [wrap64 (by omega) (by omega)]; omega
 rcases cut_cases l i with ⟨hil, hb⟩ | ⟨hil, hb⟩ | hil
 ·skip
  have hi0 : (i : Int) < (l.length : Int) := by omega
  have hi1 : (i : Int) ≤ (l.length : Int) := by omega
  have hf1 : (fr : Int) ≤ (i : Int) := by omega
  have hbe : (((l.getD i 0).toNat : Int) == 44) = true := by rw [hb]; rfl
  have hc2 := cut_yes hil hf hsp hno hb
  obtain ⟨P, hP⟩ : ∃ x, (l.take i).drop fr = x := ⟨_, rfl⟩
  rw [hP] at hc2
  have hsn : outs.map sv ++ [[.str (sb P)]] = (outs ++ [P]).map sv := by rw [List.map_append]; rfl
  have htk : List.take outs.length (outs.map sv) = outs.map sv := List.take_of_length_le (by simp)
  have hb1 : ((outs.length + 1 : Nat) : Int) ≤ 4611686018427387904 := by omega
  have hb2 : (outs.length + 1) * 16 ≤ 70368744177664 := by omega
  apply G.seq
  apply G.seq
  refine G.rg tab_ok (kof_nil _) (hk := ?_)
  refine G.iffT (h1 := ?_)
  apply G.skip
  apply G.seq
  apply G.block
  apply G.seq
  refine G.rg tab_ok (kof_nil _) (hk := ?_)
  refine G.iffT (h1 := ?_)
  apply G.seq
  refine G.rg tab_ok (kof_nil _) (hk := ?_)
  refine G.rg tab_ok (kof_nil _) (hk := ?_)
  apply G.blk
  refine G.rg tab_ok (kof_nil _) (hk := ?_)
  refine G.nm [0, 1, 5, 6, 7] (h := ?_)
  first
  | exact G.upto (hJ (outs ++ [P], i + 1, i + 1) ⟨by simp only; omega, Nat.le_refl _, hc2, by simp, by simp only [List.length_append, List.length_cons, List.length_nil]; omega⟩ (by simp only; omega)) (by simp)
  | exact G.upto (hJ (outs, fr, i + 1) ⟨by simp only; omega, by simp only; omega, hsp, hc2, by simp only; omega⟩ (by simp only; omega)) (by simp)
 ·skip
  have hi0 : (i : Int) < (l.length : Int) := by omega
  have hi1 : (i : Int) ≤ (l.length : Int) := by omega
  have hbe : (((l.getD i 0).toNat : Int) == 44) = false := by
   rw [beq_eq_false_iff_ne]
   intro h
   exact hb (UInt8.toNat.inj (by have : (44 : UInt8).toNat = 44 := rfl; omega))
  have hc2 := cut_no hil hf hno hb
  apply G.seq
  apply G.seq
  refine G.rg tab_ok (kof_nil _) (hk := ?_)
  refine G.iffT (h1 := ?_)
  apply G.skip
  apply G.seq
  apply G.block
  apply G.seq
  refine G.rg tab_ok (kof_nil _) (hk := ?_)
  refine G.iffF (h2 := ?_)
  apply G.skip
  apply G.blk
  refine G.rg tab_ok (kof_nil _) (hk := ?_)
  refine G.nm [0, 1, 5, 6, 7] (h := ?_)
  first
  | exact G.upto (hJ (outs ++ [P], i + 1, i + 1) ⟨by simp only; omega, Nat.le_refl _, hc2, by simp, by simp only [List.length_append, List.length_cons, List.length_nil]; omega⟩ (by simp only; omega)) (by simp)
  | exact G.upto (hJ (outs, fr, i + 1) ⟨by simp only; omega, by simp only; omega, hsp, hc2, by simp only; omega⟩ (by simp only; omega)) (by simp)
 ·skip
  obtain rfl : i = l.length := by omega
  have hi0 : ¬ ((l.length : Int) < (l.length : Int)) := by omega
  apply G.seq
  apply G.seq
  refine G.rg tab_ok (kof_nil _) (hk := ?_)
  refine G.iffF (h2 := ?_)
  refine G.exit rfl ?_
  apply G.seq
  have hend := cut_end hsp hno
  have hf1 : (fr : Int) ≤ (l.length : Int) := by omega
  have hsn : outs.map sv ++ [[.str (sb (l.drop fr))]] = (spl l).map sv := by rw [← hend, List.map_append]; rfl
  have htk : List.take outs.length (outs.map sv) = outs.map sv := List.take_of_length_le (by simp)
  have hb1 : ((outs.length + 1 : Nat) : Int) ≤ 4611686018427387904 := by omega
  have hb2 : (outs.length + 1) * 16 ≤ 70368744177664 := by omega
  have hln : (spl l).length = outs.length + 1 := by rw [← hend]; simp
  have hle : outs.length + 1 ≤ (spl l).length := by omega
  have htk2 : List.take (outs.length + 1) ((spl l).map sv) = (spl l).map sv := List.take_of_length_le (by simp; omega)
  clear hln
  refine G.rg tab_ok (kof_nil _) (hk := ?_)
  refine G.fin tab_ok (hr := ?_)
  rfl
def r_l1Split (xs0 : List A) (rr : A) : Prop := ∃ (l : List UInt8), (l.length ≤ 1048576) ∧ xs0 = [.str (sb l), .int .u8 44] ∧ rr = .row true 1 ((spl l).map sv)
noncomputable def q_l1Split : List A → Option A := kgr r_l1Split
theorem k_l1Split : KOk Tryd.prog (18, q_l1Split) := kgr_ok (enters_of Tryd.func18 rfl rfl) (by rintro xs0 rr ⟨l, hc1, rfl, rfl⟩; exact l1Split_ac l hc1)
theorem e_l1Split : ∀ (l : List UInt8), (l.length ≤ 1048576) → q_l1Split [.str (sb l), .int .u8 44] = some (.row true 1 ((spl l).map sv)) := by
 intro l hc1
 refine kgr_eq (fun xs0 rr r2 h h2 => ?_) ⟨l, hc1, rfl, rfl⟩
 obtain ⟨l1, _, e1, rfl⟩ := h; obtain ⟨l2, _, e2, rfl⟩ := h2
 rw [e1] at e2
 simp only [List.cons.injEq, A.str.injEq, true_and, and_true] at e2
 have e3 := congrArg bl e2
 rw [bl_sb, bl_sb] at e3
 subst e3
 rfl
theorem l1ReadU_ac (l : List UInt8) (hc1 : l.length ≤ 1048576) (hc2 : sgn l = false) : AC Tryd.prog 19 [.str (sb l)] (.tup [.int .i64 (((rdU l).getD 0 : Nat) : Int), .bool (rdU l).isSome]) := by
 have hsg := hc2
 refine AC.of tab_ok Tryd.func19 rfl (Nat.le_of_ble_eq_true rfl) fun w0 S0 => ?_
 change G _ _ ⟨[(0, .str (sb l))], [], 77⟩
 apply G.seq
 rcases u_cases l with hbad | ⟨h9a, h9b, hsml⟩
 ·skip
  refine G.rg tab_ok (kof_nil _) (hk := ?_)
  apply G.seq
  apply G.seq
  apply G.joinS
  ·intro hk
   rcases (show ¬ (l.length : Int) > 1 ∨ ((l.length : Int) > 1 ∧ (((l.getD 0 0).toNat : Int) == 45) = false) ∨ ((l.length : Int) > 1 ∧ (((l.getD 0 0).toNat : Int) == 45) = true ∧ (((l.getD 1 0).toNat : Int) == 45) = true) from uns_cases hsg) with h1 | ⟨h1, h2⟩ | ⟨h1, h2, h3⟩
   ·refine G.rgN 1 tab_ok (kof_nil _) (hk := ?_)
    refine G.rdC tab_ok (kof_nil _) (hk := ?_)
    exact G.fg [0, 20] (hk := hk)
   ·have h4 : (0 : Int) < (l.length : Int) := by omega
    refine G.rgN 1 tab_ok (kof_nil _) (hk := ?_)
    refine G.rdC tab_ok (kof_nil _) (hk := ?_)
    refine G.fg [0, 20] (hk := ?_)
    exact hk
   ·have h4 : (0 : Int) < (l.length : Int) := by omega
    have h5 : (1 : Int) < (l.length : Int) := h1
    refine G.rgN 1 tab_ok (kof_nil _) (hk := ?_)
    refine G.rdC tab_ok (kof_nil _) (hk := ?_)
    refine G.fg [0, 20] (hk := ?_)
    exact hk
  refine G.iffF (h2 := ?_)
  apply G.skip
  apply G.seq
  apply G.seq
  apply G.joinS
  ·intro hk
   rcases hbad with h1 | ⟨h1, h2⟩ | ⟨h1, h2, h3, h4⟩
   ·refine G.rgN 1 tab_ok (kof_nil _) (hk := ?_)
    refine G.rdC tab_ok (kof_nil _) (hk := ?_)
    exact G.fg [0, 51] (hk := hk)
   ·refine G.rgN 1 tab_ok (kof_nil _) (hk := ?_)
    refine G.rdC tab_ok (kof_nil _) (hk := ?_)
    refine G.fg [0, 51] (hk := ?_)
    exact hk
   ·have h5 : (0 : Int) < (l.length : Int) := by omega
    refine G.rgN 1 tab_ok (kof_nil _) (hk := ?_)
    refine G.rdC tab_ok (kof_nil _) (hk := ?_)
    refine G.fg [0, 51] (hk := ?_)
    exact hk
  refine G.iffT (h1 := ?_)
  apply G.seq
  refine G.fg [] (hk := ?_)
  refine G.rg tab_ok (kof_nil _) (hk := ?_)
  have hr : rdU l = none := rdU_bad hbad
  refine G.fin tab_ok (hr := ?_)
  simp only [oneOrTup, hr]
  rfl
 ·skip
  refine G.rg tab_ok (kof_nil _) (hk := ?_)
  apply G.seq
  apply G.seq
  apply G.joinS
  ·intro hk
   rcases (show ¬ (l.length : Int) > 1 ∨ ((l.length : Int) > 1 ∧ (((l.getD 0 0).toNat : Int) == 45) = false) ∨ ((l.length : Int) > 1 ∧ (((l.getD 0 0).toNat : Int) == 45) = true ∧ (((l.getD 1 0).toNat : Int) == 45) = true) from uns_cases hsg) with h1 | ⟨h1, h2⟩ | ⟨h1, h2, h3⟩
   ·refine G.rgN 1 tab_ok (kof_nil _) (hk := ?_)
    refine G.rdC tab_ok (kof_nil _) (hk := ?_)
    exact G.fg [0, 20] (hk := hk)
   ·have h4 : (0 : Int) < (l.length : Int) := by omega
    refine G.rgN 1 tab_ok (kof_nil _) (hk := ?_)
    refine G.rdC tab_ok (kof_nil _) (hk := ?_)
    refine G.fg [0, 20] (hk := ?_)
    exact hk
   ·have h4 : (0 : Int) < (l.length : Int) := by omega
    have h5 : (1 : Int) < (l.length : Int) := h1
    refine G.rgN 1 tab_ok (kof_nil _) (hk := ?_)
    refine G.rdC tab_ok (kof_nil _) (hk := ?_)
    refine G.fg [0, 20] (hk := ?_)
    exact hk
  refine G.iffF (h2 := ?_)
  apply G.skip
  apply G.seq
  apply G.seq
  apply G.joinS
  ·intro hk
   have h5 : (0 : Int) < (l.length : Int) := by omega
   rcases hsml with h3 | ⟨h3, h4⟩
   ·refine G.rgN 1 tab_ok (kof_nil _) (hk := ?_)
    refine G.rdC tab_ok (kof_nil _) (hk := ?_)
    exact G.fg [0, 51] (hk := hk)
   ·refine G.rgN 1 tab_ok (kof_nil _) (hk := ?_)
    refine G.rdC tab_ok (kof_nil _) (hk := ?_)
    refine G.fg [0, 51] (hk := ?_)
    exact hk
  refine G.iffF (h2 := ?_)
  apply G.skip
  apply G.seq
  refine G.fg [0] (hk := ?_)
  refine G.rg tab_ok (kof_nil _) (hk := ?_)
  apply G.seq
  apply G.seq
  refine G.rg tab_ok (kof_nil _) (hk := ?_)
  apply G.block
  refine G.cn [0, 6, 7] [] (h := ?_)
  refine G.loopX (fun i : Nat => ⟨[(0, .str (sb l)), (6, .int .i64 (valU (l.take i) : Nat)), (7, .int .i64 i)], [], 77⟩) (fun i => i ≤ l.length ∧ (l.take i).all dig = true) (fun i => l.length - i) (0) (⟨Nat.zero_le _, rfl⟩) (by simp [valU]) ?_
  intro i hi2 J hJ
  obtain ⟨hi, hdg⟩ := hi2
  have hwi : IntKind.i64.wrap ((i : Int) + 1) = ((i + 1 : Nat) : Int) := by rw [wrap64 (by omega) (by omega)]; omega
  rcases (show (i < l.length ∧ ((l.getD i 0).toNat : Int) < 48) ∨ (i < l.length ∧ ¬ ((l.getD i 0).toNat : Int) < 48 ∧ ((l.getD i 0).toNat : Int) > 57) ∨ (i < l.length ∧ ¬ ((l.getD i 0).toNat : Int) < 48 ∧ ¬ ((l.getD i 0).toNat : Int) > 57) ∨ ¬ i < l.length by omega) with ⟨hil, hb⟩ | ⟨hil, hb, hb2⟩ | ⟨hil, hb, hb2⟩ | hil
  ·skip
   have hi0 : (i : Int) < (l.length : Int) := by omega
   have hnd : dig (l.getD i 0) = false := dig_no (.inl hb)
   apply G.seq
   apply G.seq
   refine G.rg tab_ok (kof_nil _) (hk := ?_)
   refine G.iffT (h1 := ?_)
   apply G.skip
   apply G.seq
   apply G.block
   apply G.seq
   apply G.seq
   refine G.rgN 1 tab_ok (kof_nil _) (hk := ?_)
   refine G.rdC tab_ok (kof_nil _) (hk := ?_)
   refine G.iffT (h1 := ?_)
   apply G.seq
   refine G.rg tab_ok (kof_nil _) (hk := ?_)
   have hr : rdU l = none := rdU_nodig hil hnd
   refine G.fin tab_ok (hr := ?_)
   simp only [oneOrTup, hr]
   rfl
  ·skip
   have hi0 : (i : Int) < (l.length : Int) := by omega
   have hnd : dig (l.getD i 0) = false := dig_no (.inr hb2)
   apply G.seq
   apply G.seq
   refine G.rg tab_ok (kof_nil _) (hk := ?_)
   refine G.iffT (h1 := ?_)
   apply G.skip
   apply G.seq
   apply G.block
   apply G.seq
   apply G.seq
   refine G.rgN 1 tab_ok (kof_nil _) (hk := ?_)
   refine G.rdC tab_ok (kof_nil _) (hk := ?_)
   refine G.iffT (h1 := ?_)
   apply G.seq
   refine G.rg tab_ok (kof_nil _) (hk := ?_)
   have hr : rdU l = none := rdU_nodig hil hnd
   refine G.fin tab_ok (hr := ?_)
   simp only [oneOrTup, hr]
   rfl
  ·skip
   have hi0 : (i : Int) < (l.length : Int) := by omega
   obtain ⟨hw1, hw2, hw3, hw4, hdg2⟩ := read_step hil (by omega) hdg hb hb2
   apply G.seq
   apply G.seq
   refine G.rg tab_ok (kof_nil _) (hk := ?_)
   refine G.iffT (h1 := ?_)
   apply G.skip
   apply G.seq
   apply G.block
   apply G.seq
   apply G.seq
   refine G.rgN 1 tab_ok (kof_nil _) (hk := ?_)
   refine G.rdC tab_ok (kof_nil _) (hk := ?_)
   refine G.iffF (h2 := ?_)
   apply G.skip
   refine G.rg tab_ok (kof_nil _) (hk := ?_)
   apply G.blk
   refine G.rg tab_ok (kof_nil _) (hk := ?_)
   refine G.cn [0, 6, 7] [] (h := ?_)
   exact G.upto (hJ (i + 1) ⟨by omega, hdg2⟩ (by omega)) (by simp)
  ·skip
   obtain rfl : i = l.length := by omega
   have hi0 : ¬ ((l.length : Int) < (l.length : Int)) := by omega
   apply G.seq
   apply G.seq
   refine G.rg tab_ok (kof_nil _) (hk := ?_)
   refine G.iffF (h2 := ?_)
   refine G.exit rfl ?_
   apply G.seq
   refine G.rg tab_ok (kof_nil _) (hk := ?_)
   rw [List.take_length] at hdg ⊢
   have hr : rdU l = some (valU l) := rdU_good h9a h9b hsml hdg
   refine G.fin tab_ok (hr := ?_)
   simp only [oneOrTup, hr]
   rfl
def r_l1ReadU (xs0 : List A) (rr : A) : Prop := ∃ (l : List UInt8), (l.length ≤ 1048576) ∧ (sgn l = false) ∧ xs0 = [.str (sb l)] ∧ rr = .tup [.int .i64 (((rdU l).getD 0 : Nat) : Int), .bool (rdU l).isSome]
noncomputable def q_l1ReadU : List A → Option A := kgr r_l1ReadU
theorem k_l1ReadU : KOk Tryd.prog (19, q_l1ReadU) := kgr_ok (enters_of Tryd.func19 rfl rfl) (by rintro xs0 rr ⟨l, hc1, hc2, rfl, rfl⟩; exact l1ReadU_ac l hc1 hc2)
theorem e_l1ReadU : ∀ (l : List UInt8), (l.length ≤ 1048576) → (sgn l = false) → q_l1ReadU [.str (sb l)] = some (.tup [.int .i64 (((rdU l).getD 0 : Nat) : Int), .bool (rdU l).isSome]) := by
 intro l hc1 hc2
 refine kgr_eq (fun xs0 rr r2 h h2 => ?_) ⟨l, hc1, hc2, rfl, rfl⟩
 obtain ⟨l1, _, _, e1, rfl⟩ := h; obtain ⟨l2, _, _, e2, rfl⟩ := h2
 rw [e1] at e2
 simp only [List.cons.injEq, A.str.injEq, true_and, and_true] at e2
 have e3 := congrArg bl e2
 rw [bl_sb, bl_sb] at e3
 subst e3
 rfl
theorem ok_l1ReadN : Kn.ok Tryd.prog (kof [(19, q_l1ReadU)]) := kof_cons k_l1ReadU ((kof_nil _))
theorem l1ReadN_ac (l : List UInt8) (hc1 : l.length ≤ 1048576) (hc2 : sgn l = true) : AC Tryd.prog 19 [.str (sb l)] (.tup [.int .i64 ((rdV l).getD 0), .bool (rdV l).isSome]) := by
 have e_l1ReadU := e_l1ReadU
 have htl : List.take l.length l = l := List.take_length
 obtain ⟨D, hD⟩ : ∃ x, l.drop 1 = x := ⟨_, rfl⟩
 have hsd := sgn_drop hc2
 have hrv := rdV_sgn hc2
 rw [hD] at hsd hrv
 have hDl : D.length ≤ 1048576 := by rw [← hD, List.length_drop]; omega
 obtain ⟨g1, g2, g3⟩ := sgn_facts hc2
 have g4 : (0 : Int) < (l.length : Int) := by omega
 have g5 : (1 : Int) < (l.length : Int) := g1
 have g6 : (1 : Int) ≤ (l.length : Int) := by omega
 refine AC.of tab_ok Tryd.func19 rfl (Nat.le_of_ble_eq_true rfl) fun w0 S0 => ?_
 change G _ _ ⟨[(0, .str (sb l))], [], 77⟩
 apply G.seq
 rcases hu : rdU D with _ | u
 ·skip
  rw [hu] at hrv
  refine G.rg tab_ok ok_l1ReadN (hk := ?_)
  apply G.seq
  apply G.seq
  refine G.rgN 1 tab_ok ok_l1ReadN (hk := ?_)
  refine G.rdC tab_ok ok_l1ReadN (hk := ?_)
  refine G.iffT (h1 := ?_)
  apply G.seq
  refine G.rg tab_ok ok_l1ReadN (hk := ?_)
  apply G.seq
  refine G.rgN 3 tab_ok ok_l1ReadN (hk := ?_)
  refine G.rdC tab_ok ok_l1ReadN (hk := ?_)
  refine G.fin tab_ok (hr := ?_)
  simp only [oneOrTup, hrv]
  rfl
 ·skip
  rw [hu] at hrv
  simp only at hrv
  have hul := (rdU_some hu).2
  have hw : IntKind.i64.wrap (0 - (u : Int)) = -(u : Int) := by rw [wrap64 (by omega) (by omega)]; omega
  refine G.rg tab_ok ok_l1ReadN (hk := ?_)
  apply G.seq
  apply G.seq
  refine G.rgN 1 tab_ok ok_l1ReadN (hk := ?_)
  refine G.rdC tab_ok ok_l1ReadN (hk := ?_)
  refine G.iffT (h1 := ?_)
  apply G.seq
  refine G.rg tab_ok ok_l1ReadN (hk := ?_)
  apply G.seq
  refine G.rgN 3 tab_ok ok_l1ReadN (hk := ?_)
  refine G.rdC tab_ok ok_l1ReadN (hk := ?_)
  refine G.fin tab_ok (hr := ?_)
  simp only [oneOrTup, hrv]
  by_cases h0 : u = 0
  ·subst h0; rfl
  ·rw [if_neg h0]
   have h1 : ((u : Int) == 0) = false := by simpa using h0
   simp only [h1, Option.isSome_some, Option.getD_some]
   try rfl
theorem l1Read_ac (l : List UInt8) (hc1 : l.length ≤ 1048576) : AC Tryd.prog 19 [.str (sb l)] (.tup [.int .i64 ((rdV l).getD 0), .bool (rdV l).isSome]) := by
 cases hs : sgn l with
 | true => exact l1ReadN_ac l hc1 hs
 | false =>
  have h := l1ReadU_ac l hc1 hs
  rw [rdV_uns hs]
  have e1 : (Option.map (fun n : Nat => (n : Int)) (rdU l)).isSome = (rdU l).isSome := by cases rdU l <;> rfl
  have e2 : (Option.map (fun n : Nat => (n : Int)) (rdU l)).getD 0 = (((rdU l).getD 0 : Nat) : Int) := by cases rdU l <;> rfl
  rw [e1, e2]
  exact h
def r_l1Read (xs0 : List A) (rr : A) : Prop := ∃ (l : List UInt8), (l.length ≤ 1048576) ∧ xs0 = [.str (sb l)] ∧ rr = .tup [.int .i64 ((rdV l).getD 0), .bool (rdV l).isSome]
noncomputable def q_l1Read : List A → Option A := kgr r_l1Read
theorem k_l1Read : KOk Tryd.prog (19, q_l1Read) := kgr_ok (enters_of Tryd.func19 rfl rfl) (by rintro xs0 rr ⟨l, hc1, rfl, rfl⟩; exact l1Read_ac l hc1)
theorem e_l1Read : ∀ (l : List UInt8), (l.length ≤ 1048576) → q_l1Read [.str (sb l)] = some (.tup [.int .i64 ((rdV l).getD 0), .bool (rdV l).isSome]) := by
 intro l hc1
 refine kgr_eq (fun xs0 rr r2 h h2 => ?_) ⟨l, hc1, rfl, rfl⟩
 obtain ⟨l1, _, e1, rfl⟩ := h; obtain ⟨l2, _, e2, rfl⟩ := h2
 rw [e1] at e2
 simp only [List.cons.injEq, A.str.injEq, true_and, and_true] at e2
 have e3 := congrArg bl e2
 rw [bl_sb, bl_sb] at e3
 subst e3
 rfl
theorem ok_specParse : Kn.ok Tryd.prog (kof [(18, q_l1Split), (19, q_l1Read), (13, q_specIsStream)]) := kof_cons k_l1Split (kof_cons k_l1Read (kof_cons k_specIsStream ((kof_nil _))))
theorem specParse_ac (l : List UInt8) (hc1 : l.length ≤ 1048576) : AC Tryd.prog 9 [.str (sb l)] (.tup [.row true 1 ((prs rdV l).1.map iv), .bool (prs rdV l).2]) := by
 have e_l1Split := e_l1Split
 have e_l1Read := e_l1Read
 have e_specIsStream := e_specIsStream
 have hv1 := pureLL_sv
 have hv2 := roLL_sv
 have hv3 := noLoanLL_sv
 have hv4 := rnLL_sv
 have hv5 := refsLL_sv
 have hsv : ∀ x : List UInt8, sv x = [.str (sb x)] := fun _ => rfl
 have hwl := spl_len l
 refine AC.of tab_ok Tryd.func9 rfl (Nat.le_of_ble_eq_true rfl) fun w0 S0 => ?_
 change G _ _ ⟨[(0, .str (sb l))], [], 36⟩
 apply G.seq
 refine G.rg tab_ok ok_specParse (hk := ?_)
 apply G.seq
 apply G.seq
 refine G.rg tab_ok ok_specParse (hk := ?_)
 refine G.iff (h1 := fun h1 => ?_) (h2 := fun h1 => ?_)
 ·try simp only [zqz] at h1
  apply G.seq
  refine G.rg tab_ok ok_specParse (hk := ?_)
  refine G.fin tab_ok (hr := ?_)
  simp only [oneOrTup, prs_dot h1]
  rfl
 ·try simp only [zqz] at h1
  apply G.skip
  apply G.seq
  have hdot : ¬ l = [46] := h1
  refine G.rg tab_ok ok_specParse (hk := ?_)
  apply G.seq
  apply G.seq
  refine G.rg tab_ok ok_specParse (hk := ?_)
  apply G.block
  refine G.nm [4, 14, 15, 16] (h := ?_)
  refine G.loopX (fun j : Nat => ⟨[(4, .sl 0 0 j), (14, .sl 1 0 (spl l).length), (15, .int .i64 (spl l).length), (16, .int .i64 j)], [some (1, (((spl l).take j).map (fun w => (rdV w).getD 0)).map iv), some (1, (spl l).map sv)], 36⟩) (fun j => j ≤ (spl l).length ∧ ∀ k < j, (rdV ((spl l).getD k default)).isSome = true) (fun j => (spl l).length - j) (0) (⟨Nat.zero_le _, fun k hk => absurd hk (by omega)⟩) (by simp) ?_
  intro j hj2 J hJ
  obtain ⟨hj, hall⟩ := hj2
  have hwj : IntKind.i64.wrap ((j : Int) + 1) = ((j + 1 : Nat) : Int) := by rw [wrap64 (by omega) (by omega)]; omega
  rcases (show (j < (spl l).length ∧ (rdV ((spl l).getD j default)).isSome = true) ∨ (j < (spl l).length ∧ (rdV ((spl l).getD j default)).isSome = false) ∨ ¬ j < (spl l).length from word_cases _ _) with ⟨hjl, hsm⟩ | ⟨hjl, hsm⟩ | hjl
  ·skip
   have hi0 : (j : Int) < ((spl l).length : Int) := by omega
   have hwj2 := spl_get hjl
   have hwlen : ((spl l).getD j default).length ≤ 1048576 := by omega
   have htk : List.take j ((((spl l).take j).map (fun w => (rdV w).getD 0)).map iv) = (((spl l).take j).map (fun w => (rdV w).getD 0)).map iv := List.take_of_length_le (by simp; omega)
   have hml : min j (spl l).length = j := by omega
   have hsn : (((spl l).take j).map (fun w => (rdV w).getD 0)).map iv ++ [[.int .i64 ((rdV ((spl l).getD j default)).getD 0)]] = (((spl l).take (j + 1)).map (fun w => (rdV w).getD 0)).map iv := by rw [← take_snocN hjl, List.map_append, List.map_append]; rfl
   have hb1 : ((j + 1 : Nat) : Int) ≤ 4611686018427387904 := by omega
   have hb2 : (j + 1) * 8 ≤ 70368744177664 := by omega
   have hall2 := all_snoc (p := fun k => (rdV ((spl l).getD k default)).isSome = true) hall hsm
   skip
   apply G.seq
   refine G.rg tab_ok ok_specParse (hk := ?_)
   apply G.seq
   refine G.iffT (h1 := ?_)
   apply G.skip
   apply G.seq
   apply G.block
   apply G.seq
   refine G.rg tab_ok ok_specParse (hk := ?_)
   apply G.seq
   refine G.rg tab_ok ok_specParse (hk := ?_)
   apply G.seq
   apply G.seq
   refine G.rg tab_ok ok_specParse (hk := ?_)
   refine G.iffF (h2 := ?_)
   apply G.skip
   refine G.rg tab_ok ok_specParse (hk := ?_)
   apply G.blk
   refine G.rg tab_ok ok_specParse (hk := ?_)
   refine G.nm [4, 14, 15, 16] (h := ?_)
   exact G.upto (hJ (j + 1) ⟨by omega, hall2⟩ (by omega)) (by simp; omega)
  ·skip
   have hi0 : (j : Int) < ((spl l).length : Int) := by omega
   have hwj2 := spl_get hjl
   have hwlen : ((spl l).getD j default).length ≤ 1048576 := by omega
   skip
   apply G.seq
   refine G.rg tab_ok ok_specParse (hk := ?_)
   apply G.seq
   refine G.iffT (h1 := ?_)
   apply G.skip
   apply G.seq
   apply G.block
   apply G.seq
   refine G.rg tab_ok ok_specParse (hk := ?_)
   apply G.seq
   refine G.rg tab_ok ok_specParse (hk := ?_)
   apply G.seq
   apply G.seq
   refine G.rg tab_ok ok_specParse (hk := ?_)
   refine G.iffT (h1 := ?_)
   apply G.seq
   refine G.rg tab_ok ok_specParse (hk := ?_)
   refine G.nilRow 2 1 rfl ?_
   refine G.fin tab_ok (hr := ?_)
   simp only [oneOrTup, prs_none hdot hjl hsm]
   rfl
  ·skip
   obtain rfl : j = (spl l).length := by omega
   have hi0 : ¬ (((spl l).length : Int) < ((spl l).length : Int)) := by omega
   rw [List.take_length]
   have hml : ((spl l).map (fun w => (rdV w).getD 0)).length < 17592186044416 := by rw [List.length_map]; omega
   have hml2 : (spl l).length < 17592186044416 := by omega
   have htk : List.take (spl l).length (((spl l).map (fun w => (rdV w).getD 0)).map iv) = ((spl l).map (fun w => (rdV w).getD 0)).map iv := List.take_of_length_le (by simp)
   apply G.seq
   refine G.rg tab_ok ok_specParse (hk := ?_)
   apply G.seq
   refine G.iffF (h2 := ?_)
   refine G.exit rfl ?_
   apply G.seq
   apply G.seq
   refine G.rg tab_ok ok_specParse (hk := ?_)
   refine G.iff (h1 := fun h7 => ?_) (h2 := fun h7 => ?_)
   ·try simp only [zqz] at h7
    apply G.seq
    refine G.rg tab_ok ok_specParse (hk := ?_)
    refine G.nilRow 2 1 rfl ?_
    refine G.fin tab_ok (hr := ?_)
    simp only [oneOrTup, prs_str hdot h7]
    rfl
   ·try simp only [zqz] at h7
    apply G.skip
    apply G.seq
    refine G.rg tab_ok ok_specParse (hk := ?_)
    refine G.fin tab_ok (hr := ?_)
    simp only [oneOrTup, prs_yes hdot hall h7]
def r_specParse (xs0 : List A) (rr : A) : Prop := ∃ (l : List UInt8), (l.length ≤ 1048576) ∧ xs0 = [.str (sb l)] ∧ rr = .tup [.row true 1 ((prs rdV l).1.map iv), .bool (prs rdV l).2]
noncomputable def q_specParse : List A → Option A := kgr r_specParse
theorem k_specParse : KOk Tryd.prog (9, q_specParse) := kgr_ok (enters_of Tryd.func9 rfl rfl) (by rintro xs0 rr ⟨l, hc1, rfl, rfl⟩; exact specParse_ac l hc1)
theorem e_specParse : ∀ (l : List UInt8), (l.length ≤ 1048576) → q_specParse [.str (sb l)] = some (.tup [.row true 1 ((prs rdV l).1.map iv), .bool (prs rdV l).2]) := by
 intro l hc1
 refine kgr_eq (fun xs0 rr r2 h h2 => ?_) ⟨l, hc1, rfl, rfl⟩
 obtain ⟨l1, _, e1, rfl⟩ := h; obtain ⟨l2, _, e2, rfl⟩ := h2
 rw [e1] at e2
 simp only [List.cons.injEq, A.str.injEq, true_and, and_true] at e2
 have e3 := congrArg bl e2
 rw [bl_sb, bl_sb] at e3
 subst e3
 rfl
theorem ok_implParse : Kn.ok Tryd.prog (kof [(15, q_implIsStream)]) := kof_cons k_implIsStream ((kof_nil _))
theorem en_split : Enters Tryd.prog 20 := enters_of Tryd.func20 rfl rfl
theorem en_number : Enters Tryd.prog 21 := enters_of Tryd.func21 rfl rfl
theorem implParse_aw (l : List UInt8) (hc1 : l.length ≤ 1048576) : ACw CP Tryd.prog 10 [.str (sb l)] (.tup [.row true 1 ((prs numF l).1.map iv), .bool (prs numF l).2]) := by
 have e_implIsStream := e_implIsStream
 have hv1 := pureLL_sv
 have hv2 := roLL_sv
 have hv3 := noLoanLL_sv
 have hv4 := rnLL_sv
 have hv5 := refsLL_sv
 have hsv : ∀ x : List UInt8, sv x = [.str (sb x)] := fun _ => rfl
 have hwl := spl_len l
 refine ACw.of tab_ok Tryd.func10 rfl (Nat.le_of_ble_eq_true rfl) fun w0 S0 hCw => ?_
 change G _ _ ⟨[(0, .str (sb l))], [], 35⟩
 apply G.seq
 refine G.rg tab_ok ok_implParse (hk := ?_)
 apply G.seq
 apply G.seq
 refine G.rg tab_ok ok_implParse (hk := ?_)
 refine G.iff (h1 := fun h1 => ?_) (h2 := fun h1 => ?_)
 ·try simp only [zqz] at h1
  apply G.seq
  refine G.rg tab_ok ok_implParse (hk := ?_)
  refine G.nilRow 2 1 rfl ?_
  refine G.fin tab_ok (hr := ?_)
  simp only [oneOrTup, prs_dot h1]
  rfl
 ·try simp only [zqz] at h1
  apply G.skip
  apply G.seq
  have hdot : ¬ l = [46] := h1
  refine G.rg tab_ok ok_implParse (hk := ?_)
  apply G.seq
  apply G.seq
  refine G.rgN 1 tab_ok ok_implParse (hk := ?_)
  refine G.cw cp_lasts hCw en_split (splitW hc1) (h := ?_)
  refine G.rgC tab_ok ok_implParse (hk := ?_)
  apply G.block
  refine G.nm [4, 13, 14, 15] (h := ?_)
  refine G.loopX (fun j : Nat => ⟨[(4, .sl 0 0 j), (13, .sl 1 0 (spl l).length), (14, .int .i64 (spl l).length), (15, .int .i64 j)], [some (1, (((spl l).take j).map (fun w => (numF w).getD 0)).map iv), some (1, (spl l).map sv)], 35⟩) (fun j => j ≤ (spl l).length ∧ ∀ k < j, (numF ((spl l).getD k default)).isSome = true) (fun j => (spl l).length - j) (0) (⟨Nat.zero_le _, fun k hk => absurd hk (by omega)⟩) (by simp) ?_
  intro j hj2 J hJ
  obtain ⟨hj, hall⟩ := hj2
  have hwj : IntKind.i64.wrap ((j : Int) + 1) = ((j + 1 : Nat) : Int) := by rw [wrap64 (by omega) (by omega)]; omega
  rcases (show (j < (spl l).length ∧ (numF ((spl l).getD j default)).isSome = true) ∨ (j < (spl l).length ∧ (numF ((spl l).getD j default)).isSome = false) ∨ ¬ j < (spl l).length from word_cases _ _) with ⟨hjl, hsm⟩ | ⟨hjl, hsm⟩ | hjl
  ·skip
   have hi0 : (j : Int) < ((spl l).length : Int) := by omega
   have hwj2 := spl_get hjl
   have hwlen : ((spl l).getD j default).length ≤ 1048576 := by omega
   have htk : List.take j ((((spl l).take j).map (fun w => (numF w).getD 0)).map iv) = (((spl l).take j).map (fun w => (numF w).getD 0)).map iv := List.take_of_length_le (by simp; omega)
   have hml : min j (spl l).length = j := by omega
   have hsn : (((spl l).take j).map (fun w => (numF w).getD 0)).map iv ++ [[.int .i64 ((numF ((spl l).getD j default)).getD 0)]] = (((spl l).take (j + 1)).map (fun w => (numF w).getD 0)).map iv := by rw [← take_snocN hjl, List.map_append, List.map_append]; rfl
   have hb1 : ((j + 1 : Nat) : Int) ≤ 4611686018427387904 := by omega
   have hb2 : (j + 1) * 8 ≤ 70368744177664 := by omega
   have hall2 := all_snoc (p := fun k => (numF ((spl l).getD k default)).isSome = true) hall hsm
   obtain ⟨hnb, hnv⟩ := num_yes hsm
   rw [hnv] at hsn
   clear hnv
   apply G.seq
   refine G.rg tab_ok ok_implParse (hk := ?_)
   apply G.seq
   refine G.iffT (h1 := ?_)
   apply G.skip
   apply G.seq
   apply G.block
   apply G.seq
   refine G.rg tab_ok ok_implParse (hk := ?_)
   apply G.seq
   refine G.rgN 1 tab_ok ok_implParse (hk := ?_)
   refine G.cw cp_lasts hCw en_number (numberW hwlen) (h := ?_)
   refine G.rgC tab_ok ok_implParse (hk := ?_)
   apply G.seq
   apply G.seq
   refine G.rg tab_ok ok_implParse (hk := ?_)
   refine G.iffF (h2 := ?_)
   apply G.skip
   refine G.rg tab_ok ok_implParse (hk := ?_)
   apply G.blk
   refine G.rg tab_ok ok_implParse (hk := ?_)
   refine G.nm [4, 13, 14, 15] (h := ?_)
   exact G.upto (hJ (j + 1) ⟨by omega, hall2⟩ (by omega)) (by simp; omega)
  ·skip
   have hi0 : (j : Int) < ((spl l).length : Int) := by omega
   have hwj2 := spl_get hjl
   have hwlen : ((spl l).getD j default).length ≤ 1048576 := by omega
   have hnb := num_no hsm
   apply G.seq
   refine G.rg tab_ok ok_implParse (hk := ?_)
   apply G.seq
   refine G.iffT (h1 := ?_)
   apply G.skip
   apply G.seq
   apply G.block
   apply G.seq
   refine G.rg tab_ok ok_implParse (hk := ?_)
   apply G.seq
   refine G.rgN 1 tab_ok ok_implParse (hk := ?_)
   refine G.cw cp_lasts hCw en_number (numberW hwlen) (h := ?_)
   refine G.rgC tab_ok ok_implParse (hk := ?_)
   apply G.seq
   apply G.seq
   refine G.rg tab_ok ok_implParse (hk := ?_)
   refine G.iffT (h1 := ?_)
   apply G.seq
   refine G.rg tab_ok ok_implParse (hk := ?_)
   refine G.nilRow 2 1 rfl ?_
   refine G.fin tab_ok (hr := ?_)
   simp only [oneOrTup, prs_none hdot hjl hsm]
   rfl
  ·skip
   obtain rfl : j = (spl l).length := by omega
   have hi0 : ¬ (((spl l).length : Int) < ((spl l).length : Int)) := by omega
   rw [List.take_length]
   have hml : ((spl l).map (fun w => (numF w).getD 0)).length < 17592186044416 := by rw [List.length_map]; omega
   have hml2 : (spl l).length < 17592186044416 := by omega
   have htk : List.take (spl l).length (((spl l).map (fun w => (numF w).getD 0)).map iv) = ((spl l).map (fun w => (numF w).getD 0)).map iv := List.take_of_length_le (by simp)
   apply G.seq
   refine G.rg tab_ok ok_implParse (hk := ?_)
   apply G.seq
   refine G.iffF (h2 := ?_)
   refine G.exit rfl ?_
   apply G.seq
   apply G.seq
   refine G.rg tab_ok ok_implParse (hk := ?_)
   refine G.iff (h1 := fun h7 => ?_) (h2 := fun h7 => ?_)
   ·try simp only [zqz] at h7
    apply G.seq
    refine G.rg tab_ok ok_implParse (hk := ?_)
    refine G.nilRow 2 1 rfl ?_
    refine G.fin tab_ok (hr := ?_)
    simp only [oneOrTup, prs_str hdot h7]
    rfl
   ·try simp only [zqz] at h7
    apply G.skip
    apply G.seq
    refine G.rg tab_ok ok_implParse (hk := ?_)
    refine G.fin tab_ok (hr := ?_)
    simp only [oneOrTup, prs_yes hdot hall h7]
theorem ok_lawParse : Kn.ok Tryd.prog (kof [(9, q_specParse), (8, q_eqIntS), (12, q_heldIntS)]) := kof_cons k_specParse (kof_cons k_eqIntS (kof_cons k_heldIntS ((kof_nil _))))
theorem en_implParse : Enters Tryd.prog 10 := enters_of Tryd.func10 rfl rfl
theorem heldI_mkP (n : Int) (k : Nat) : heldI n (mkI n k) = n + k := by unfold heldI; rw [mkI_len, if_pos rfl]
theorem lawParse_aw (l : List UInt8)  : ACw CP Tryd.prog 4 [.str (sb l)] (.bool true) := by
 have e_specParse := e_specParse
 have e_eqIntS := e_eqIntS
 have e_heldIntS := e_heldIntS
 refine ACw.of tab_ok Tryd.func4 rfl (Nat.le_of_ble_eq_true rfl) fun w0 S0 hCw => ?_
 change G _ _ ⟨[(0, .str (sb l))], [], 66⟩
 apply G.seq
 refine G.rg tab_ok ok_lawParse (hk := ?_)
 apply G.seq
 apply G.seq
 refine G.rg tab_ok ok_lawParse (hk := ?_)
 refine G.iff (h1 := fun h1 => ?_) (h2 := fun h1 => ?_)
 ·try simp only [zqz] at h1
  apply G.seq
  refine G.rg tab_ok ok_lawParse (hk := ?_)
  refine G.fin tab_ok (hr := ?_)
  rfl
 ·try simp only [zqz] at h1
  apply G.skip
  apply G.seq
  have hlb : l.length ≤ 1048576 := by omega
  have hol := prs_bd rdV l
  have hp2 := prs_eq l
  obtain ⟨O, hO⟩ : ∃ x, prs rdV l = x := ⟨_, rfl⟩
  rw [hO] at hol hp2
  have h5 : O.1.length < 17592186044416 := by omega
  have h6 : O.1.length < 1099511627776 := by omega
  have hmk := mkI_len
  have hhm := heldI_mkP
  have htk : List.take O.1.length (List.map iv (mkI 1 O.1.length)) = List.map iv (mkI 1 O.1.length) := List.take_of_length_le (by simp [mkI_len])
  have hn2 : ¬ (1 + (O.1.length : Int) < 0) := by omega
  have himp := implParse_aw l hlb
  rw [hp2] at himp
  refine G.rg tab_ok ok_lawParse (hk := ?_)
  apply G.seq
  refine G.rgN 1 tab_ok ok_lawParse (hk := ?_)
  refine G.cw cp_lasts hCw en_implParse himp (h := ?_)
  refine G.rgC tab_ok ok_lawParse (hk := ?_)
  apply G.seq
  apply G.seq
  refine G.rg tab_ok ok_lawParse (hk := ?_)
  refine G.fg [0, 3, 4, 5, 32] (hk := ?_)
  refine G.iffF (h2 := ?_)
  apply G.skip
  apply G.seq
  refine G.rg tab_ok ok_lawParse (hk := ?_)
  apply G.seq
  refine G.rgN 2 tab_ok ok_lawParse (hk := ?_)
  refine G.cf [1] en_markIntS (markIntS_mc [some (1, O.1.map iv)] 0 O.1 1 rfl (by omega) (by omega) h6) (h := ?_)
  refine G.rgC tab_ok ok_lawParse (hk := ?_)
  apply G.seq
  refine G.rg tab_ok ok_lawParse (hk := ?_)
  apply G.seq
  refine G.rg tab_ok ok_lawParse (hk := ?_)
  apply G.seq
  apply G.seq
  refine G.rg tab_ok ok_lawParse (hk := ?_)
  refine G.fg [0, 3, 4, 5, 7, 8, 40] (hk := ?_)
  refine G.iffF (h2 := ?_)
  apply G.skip
  apply G.seq
  apply G.seq
  refine G.rg tab_ok ok_lawParse (hk := ?_)
  refine G.iffF (h2 := ?_)
  apply G.skip
  apply G.seq
  refine G.rgN 1 tab_ok ok_lawParse (hk := ?_)
  refine G.cw cp_lasts hCw en_implParse himp (h := ?_)
  refine G.rgC tab_ok ok_lawParse (hk := ?_)
  apply G.seq
  apply G.seq
  refine G.rg tab_ok ok_lawParse (hk := ?_)
  refine G.fg [5, 7, 57] (hk := ?_)
  refine G.iffF (h2 := ?_)
  apply G.skip
  apply G.seq
  refine G.rg tab_ok ok_lawParse (hk := ?_)
  apply G.seq
  refine G.rg tab_ok ok_lawParse (hk := ?_)
  apply G.seq
  apply G.seq
  refine G.rg tab_ok ok_lawParse (hk := ?_)
  refine G.iffF (h2 := ?_)
  apply G.skip
  apply G.seq
  apply G.seq
  refine G.rg tab_ok ok_lawParse (hk := ?_)
  refine G.fg [65] (hk := ?_)
  refine G.iffF (h2 := ?_)
  apply G.skip
  apply G.seq
  refine G.rg tab_ok ok_lawParse (hk := ?_)
  refine G.fin tab_ok (hr := ?_)
  rfl
end Go.Proofs.YtdcjlemkegifjaaDoor.Ab
