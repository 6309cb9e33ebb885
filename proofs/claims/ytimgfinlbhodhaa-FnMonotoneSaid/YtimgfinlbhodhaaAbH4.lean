/- Walks of functions of the program: what each answers, for all arguments that meet its conditions. -/
import Derived.Test.YtimgfinlbhodhaaFwGd
import Derived.Test.YtimgfinlbhodhaaFwGe
import Derived.Test.YtimgfinlbhodhaaFwGa
namespace Go.Proofs.Ytimgfinlbhodhaa.Ab
open Go
set_option linter.unusedVariables false
set_option linter.unusedSimpArgs false
set_option maxHeartbeats 4000000
theorem ok_specInputsOf : Kn.ok Try.prog (kof [(72, q_specIsNetwork)]) := kof_cons k_specIsNetwork ((kof_nil _))
theorem specInputsOf_ac (ps : List PG) (ks : List LK) (hc1 : NW ps) (hc2 : KW ks) (hc3 : ps.length < 3518437208781) (hc4 : ks.length < 2513169434844) : AC Try.prog 59 [.agg [.row false 3 (ps.map pv), .row false 5 (ks.map kv)]] (.row true 1 ((putsO isIn ps ks).map iv)) := by
  have e_specIsNetwork := e_specIsNetwork
  have hfiv : ∀ x : List Int, List.take x.length (List.map iv x) = List.map iv x := fun x => List.take_of_length_le (by simp)
  refine AC.of tab_ok Try.func59 rfl (Nat.le_of_ble_eq_true rfl) fun w0 S0 => ?_
  change G _ _ ⟨[(0, .agg [.row false 3 (ps.map pv), .row false 5 (ks.map kv)])], [], 27⟩
  apply G.seq
  refine G.rg tab_ok ok_specInputsOf (hk := ?_)
  apply G.seq
  apply G.seq
  refine G.rg tab_ok ok_specInputsOf (hk := ?_)
  refine G.iff (h1 := fun h1 => ?_) (h2 := fun h1 => ?_)
  · try simp only [zz, bne_iff_ne, beq_iff_eq, bne_eq_false_iff_eq, beq_eq_false_iff_ne, ne_eq, gt_iff_lt, ge_iff_le] at h1
    apply G.seq
    refine G.rg tab_ok ok_specInputsOf (hk := ?_)
    refine G.nilRow 2 1 rfl ?_
    refine G.fin tab_ok (hr := ?_)
    simp only [oneOrTup, putsO, h1]
    rfl
  · try simp only [zz, bne_iff_ne, beq_iff_eq, bne_eq_false_iff_eq, beq_eq_false_iff_ne, ne_eq, gt_iff_lt, ge_iff_le] at h1
    apply G.skip
    apply G.seq
    have hn1 : netOk ps ks = true := h1
    have hkl := (netOk_w hn1).kl
    refine G.rg tab_ok ok_specInputsOf (hk := ?_)
    apply G.seq
    apply G.seq
    refine G.rg tab_ok ok_specInputsOf (hk := ?_)
    apply G.block
    refine G.nm [3, 11, 12, 13] (h := ?_)
    refine G.loopX (fun j : Nat => ⟨[(3, .sl 0 0 (whereL isIn ks j).length), (11, .row false 5 (ks.map kv)), (12, .int .i64 ks.length), (13, .int .i64 j)], [some (1, (whereL isIn ks j).map iv)], 27⟩) (fun j => j ≤ ks.length) (fun j => ks.length - j) (0) (Nat.zero_le _) (by simp [whereL]) ?_
    intro j hj J hJ
    have hw : IntKind.i64.wrap ((j : Int) + 1) = (j : Int) + 1 := wrap64 (by omega) (by omega)
    apply G.seq
    refine G.rg tab_ok ok_specInputsOf (hk := ?_)
    apply G.seq
    refine G.iff (h1 := fun h2 => ?_) (h2 := fun h2 => ?_)
    · try simp only [zz, bne_iff_ne, beq_iff_eq, bne_eq_false_iff_eq, beq_eq_false_iff_ne, ne_eq, gt_iff_lt, ge_iff_le] at h2
      apply G.skip
      apply G.seq
      apply G.block
      apply G.seq
      refine G.rg tab_ok ok_specInputsOf (hk := ?_)
      apply G.seq
      refine G.rg tab_ok ok_specInputsOf (hk := ?_)
      refine G.fg [3, 4, 11, 12, 13, 20] (hk := ?_)
      refine G.iff (h1 := fun h3 => ?_) (h2 := fun h3 => ?_)
      · try simp only [zz, bne_iff_ne, beq_iff_eq, bne_eq_false_iff_eq, beq_eq_false_iff_ne, ne_eq, gt_iff_lt, ge_iff_le] at h3
        have hql := whereL_len isIn ks j
        have hq1 : (((whereL isIn ks j).length + 1 : Nat) : Int) ≤ 4611686018427387904 := by omega
        have hq2 : ((whereL isIn ks j).length + 1) * 8 ≤ 70368744177664 := by omega
        have hfiv : ∀ x : List Int, List.take x.length (List.map iv x) = List.map iv x := fun x => List.take_of_length_le (by simp)
        refine G.rg tab_ok ok_specInputsOf (hk := ?_)
        apply G.blk
        refine G.rg tab_ok ok_specInputsOf (hk := ?_)
        refine G.nm [3, 11, 12, 13] (h := ?_)
        have hwl : whereL isIn ks (j + 1) = if isIn (ks.getD j default) = true then whereL isIn ks j ++ [(j : Int)] else whereL isIn ks j := rfl
        first
        | exact G.upto (hJ (j + 1) (by omega) (by omega)) (by rw [hwl, if_pos (by first | exact h3 | (simp only [isIn, beq_iff_eq]; exact h3))]; simp [iv])
        | exact G.upto (hJ (j + 1) (by omega) (by omega)) (by rw [hwl, if_neg (by first | (rw [Bool.not_eq_true]; exact h3) | (simp only [isIn, beq_iff_eq]; exact h3))]; simp)
      · try simp only [zz, bne_iff_ne, beq_iff_eq, bne_eq_false_iff_eq, beq_eq_false_iff_ne, ne_eq, gt_iff_lt, ge_iff_le] at h3
        apply G.skip
        apply G.blk
        refine G.rg tab_ok ok_specInputsOf (hk := ?_)
        refine G.nm [3, 11, 12, 13] (h := ?_)
        have hwl : whereL isIn ks (j + 1) = if isIn (ks.getD j default) = true then whereL isIn ks j ++ [(j : Int)] else whereL isIn ks j := rfl
        first
        | exact G.upto (hJ (j + 1) (by omega) (by omega)) (by rw [hwl, if_pos (by first | exact h3 | (simp only [isIn, beq_iff_eq]; exact h3))]; simp [iv])
        | exact G.upto (hJ (j + 1) (by omega) (by omega)) (by rw [hwl, if_neg (by first | (rw [Bool.not_eq_true]; exact h3) | (simp only [isIn, beq_iff_eq]; exact h3))]; simp)
    · try simp only [zz, bne_iff_ne, beq_iff_eq, bne_eq_false_iff_eq, beq_eq_false_iff_ne, ne_eq, gt_iff_lt, ge_iff_le] at h2
      refine G.exit rfl ?_
      apply G.seq
      refine G.rg tab_ok ok_specInputsOf (hk := ?_)
      refine G.fin tab_ok (hr := ?_)
      obtain rfl : j = ks.length := by omega
      simp only [oneOrTup, putsO, hn1, if_true, hfiv]
def r_specInputsOf (xs0 : List A) (rr : A) : Prop := ∃ (ps : List PG) (ks : List LK), (NW ps) ∧ (KW ks) ∧ (ps.length < 3518437208781) ∧ (ks.length < 2513169434844) ∧ xs0 = [.agg [.row false 3 (ps.map pv), .row false 5 (ks.map kv)]] ∧ rr = .row true 1 ((putsO isIn ps ks).map iv)
noncomputable def q_specInputsOf : List A → Option A := kgr r_specInputsOf
theorem k_specInputsOf : KOk Try.prog (59, q_specInputsOf) := kgr_ok (enters_of Try.func59 rfl rfl) (by rintro xs0 rr ⟨ps, ks, hc1, hc2, hc3, hc4, rfl, rfl⟩; exact specInputsOf_ac ps ks hc1 hc2 hc3 hc4)
theorem e_specInputsOf : ∀ (ps : List PG) (ks : List LK), (NW ps) → (KW ks) → (ps.length < 3518437208781) → (ks.length < 2513169434844) → q_specInputsOf [.agg [.row false 3 (ps.map pv), .row false 5 (ks.map kv)]] = some (.row true 1 ((putsO isIn ps ks).map iv)) := by
  intro ps ks hc1 hc2 hc3 hc4
  refine kgr_eq (fun xs0 rr r2 h h2 => ?_) ⟨ps, ks, hc1, hc2, hc3, hc4, rfl, rfl⟩
  obtain ⟨ps1, ks1, _, _, _, _, e1, rfl⟩ := h; obtain ⟨ps2, ks2, _, _, _, _, e2, rfl⟩ := h2
  rw [e1] at e2
  simp only [List.cons.injEq, A.int.injEq, A.bool.injEq, A.agg.injEq, A.row.injEq, pv_inj, kv_inj, true_and, and_true] at e2
  obtain ⟨e3, e4⟩ := e2
  subst e3 e4
  rfl
end Go.Proofs.Ytimgfinlbhodhaa.Ab
