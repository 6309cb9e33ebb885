/- Walks of functions of the program: what each answers, for all arguments that meet its conditions. -/
import Derived.Test.YtimgfinlbhodhaaAbReach3
import Derived.Test.YtimgfinlbhodhaaAbY5
import Derived.Test.YtimgfinlbhodhaaAbY3
import Derived.Test.YtimgfinlbhodhaaFwGe
namespace Go.Proofs.Ytimgfinlbhodhaa.Ab
open Go
set_option linter.unusedVariables false
set_option linter.unusedSimpArgs false
set_option maxHeartbeats 4000000
theorem ok_implReachedFrom : Kn.ok Try.prog (kof [(70, q_implIsNetwork), (119, q_containsInt)]) := kof_cons k_implIsNetwork (kof_cons k_containsInt ((kof_nil _)))
theorem en_sortInts : Enters Try.prog 120 := enters_of Try.func120 rfl rfl
theorem implReachedFrom_ac (ps : List PG) (ks : List LK) (p : Int) (hc1 : NW ps) (hc2 : KW ks) (hc3 : ps.length < 3518437208781) (hc4 : ks.length < 2513169434844) : AC Try.prog 43 [.agg [.row false 3 (ps.map pv), .row false 5 (ks.map kv)], .int .i64 p] (.tup [.row true 1 ((reachO ps ks p).1.map iv), .bool (reachO ps ks p).2]) := by
  have e_implIsNetwork := e_implIsNetwork
  have e_containsInt := e_containsInt
  have hft : (false == true) = false := rfl
  have htf : (true == false) = false := rfl
  have hgb := gbv_eq
  have hpg := pureLL_gbv
  refine AC.of tab_ok Try.func43 rfl (Nat.le_of_ble_eq_true rfl) fun w0 S0 => ?_
  change G _ _ ⟨[(0, .agg [.row false 3 (ps.map pv), .row false 5 (ks.map kv)]), (1, .int .i64 p)], [], 71⟩
  apply G.seq
  refine G.rg tab_ok ok_implReachedFrom (hk := ?_)
  apply G.seq
  apply G.seq
  rcases (show netOk ps ks = false ∨ (netOk ps ks = true ∧ p < 0) ∨ (netOk ps ks = true ∧ ¬ p < 0 ∧ p ≥ (ps.length : Int)) ∨ (netOk ps ks = true ∧ ¬ p < 0 ∧ ¬ p ≥ (ps.length : Int)) by cases netOk ps ks <;> simp <;> omega) with c1 | ⟨c1, c2⟩ | ⟨c1, c2, c3⟩ | ⟨hnk, c2, c3⟩
  · skip
    refine G.rg tab_ok ok_implReachedFrom (hk := ?_)
    refine G.iffT (h1 := ?_)
    apply G.seq
    refine G.rg tab_ok ok_implReachedFrom (hk := ?_)
    refine G.nilRow 4 1 rfl ?_
    refine G.fin tab_ok (hr := ?_)
    rw [reachO_no (Or.inl c1)]
    rfl
  · skip
    refine G.rg tab_ok ok_implReachedFrom (hk := ?_)
    refine G.iffT (h1 := ?_)
    apply G.seq
    refine G.rg tab_ok ok_implReachedFrom (hk := ?_)
    refine G.nilRow 4 1 rfl ?_
    refine G.fin tab_ok (hr := ?_)
    rw [reachO_no (Or.inr (has_no1 c2))]
    rfl
  · skip
    refine G.rg tab_ok ok_implReachedFrom (hk := ?_)
    refine G.iffT (h1 := ?_)
    apply G.seq
    refine G.rg tab_ok ok_implReachedFrom (hk := ?_)
    refine G.nilRow 4 1 rfl ?_
    refine G.fin tab_ok (hr := ?_)
    rw [reachO_no (Or.inr (has_no2 c3))]
    rfl
  · skip
    have hnw := netOk_w hnk
    have hp12 := hnw.pl
    have hk30 := hnw.kl
    have hrg := rng_of hnk
    refine G.rg tab_ok ok_implReachedFrom (hk := ?_)
    refine G.iffF (h2 := ?_)
    apply G.skip
    apply G.seq
    refine G.rg tab_ok ok_implReachedFrom (hk := ?_)
    apply G.seq
    apply G.seq
    refine G.rg tab_ok ok_implReachedFrom (hk := ?_)
    apply G.block
    refine G.nm [1, 2, 6, 7] (h := ?_)
    refine G.loopX (fun x : List Int × List Int × Nat × Nat => ⟨[(1, .int .i64 p), (2, .ptr 0 0 0), (6, .sl 1 0 x.1.length), (7, .sl 2 x.2.2.1 x.2.2.2)], [some (2, [[.row false 3 (ps.map pv), .row false 5 (ks.map kv)]]), some (1, x.1.map iv), some (1, x.2.1.map iv)], 71⟩) (fun x => RfW ks p ps.length x.1 x.2.1 x.2.2.1 x.2.2.2) (fun x => 2 * (ps.length - x.1.length) + x.2.2.2) (([], [p], 0, 1)) (rf_zero) (by simp [iv]) ?_
    intro x hw J2 hJ2
    obtain ⟨out, R, o, c⟩ := x
    simp only at hw ⊢
    have l1 := hw.l1
    have l2 := hw.l2
    have hlen := RfW.len hw
    have hlo : out.length ≤ ps.length := hlen.1
    have hlc : c ≤ 2 * ps.length + 1 := hlen.2
    have hot : List.take out.length (out.map iv) = out.map iv := List.take_of_length_le (by simp)
    apply G.seq
    apply G.seq
    refine G.rg tab_ok ok_implReachedFrom (hk := ?_)
    refine G.iff (h1 := fun h5 => ?_) (h2 := fun h5 => ?_)
    · try simp only [decide_eq_true_eq, decide_eq_false_iff_not, Bool.and_eq_true, Bool.and_eq_false_imp, Bool.or_eq_true, Bool.or_eq_false_iff, Bool.not_eq_true', Bool.not_eq_false', bne_iff_ne, beq_iff_eq, bne_eq_false_iff_eq, beq_eq_false_iff_ne, ne_eq, Int.ofNat_lt, Int.not_lt, Int.not_le, Int.ofNat_le, Nat.not_lt, Nat.not_le, gt_iff_lt, ge_iff_le] at h5
      apply G.skip
      apply G.seq
      apply G.block
      apply G.seq
      refine G.rg tab_ok ok_implReachedFrom (hk := ?_)
      apply G.block
      have hc0 : 0 < c := by omega
      refine G.nm [1, 2, 6, 7, 33, 34, 35] (h := ?_)
      refine G.loopX (fun y : List Int × List Int × Nat × Nat × Nat => ⟨[(1, .int .i64 p), (2, .ptr 0 0 0), (6, .sl 1 0 y.1.length), (7, .sl 2 y.2.2.1 y.2.2.2.1), (33, .row false 5 (ks.map kv)), (34, .int .i64 ks.length), (35, .int .i64 y.2.2.2.2)], [some (2, [[.row false 3 (ps.map pv), .row false 5 (ks.map kv)]]), some (1, y.1.map iv), some (1, y.2.1.map iv)], 71⟩) (fun y => RiW ks p ps.length (R.getD o default) (2 * (ps.length - out.length) + c) y.1 y.2.1 y.2.2.1 y.2.2.2.1 y.2.2.2.2) (fun y => ks.length - y.2.2.2.2) ((out, R, o, c, 0)) (ri_begin hw hc0) (by simp) ?_
      intro y hy J hJ
      obtain ⟨out2, R2, o2, c2, i⟩ := y
      simp only at hy ⊢
      have l1 := hy.rf.l1
      have l2 := hy.rf.l2
      have hlen := RfW.len hy.rf
      have hlo : out2.length ≤ ps.length := hlen.1
      have hlc : c2 ≤ 2 * ps.length + 1 := hlen.2
      have hot : List.take out2.length (out2.map iv) = out2.map iv := List.take_of_length_le (by simp)
      have hii := hy.ii
      have hwi : IntKind.i64.wrap ((i : Int) + 1) = ((i + 1 : Nat) : Int) := by rw [wrap64 (by omega) (by omega)]; omega
      apply G.seq
      refine G.rg tab_ok ok_implReachedFrom (hk := ?_)
      apply G.seq
      refine G.iff (h1 := fun h6 => ?_) (h2 := fun h6 => ?_)
      · try simp only [decide_eq_true_eq, decide_eq_false_iff_not, Bool.and_eq_true, Bool.and_eq_false_imp, Bool.or_eq_true, Bool.or_eq_false_iff, Bool.not_eq_true', Bool.not_eq_false', bne_iff_ne, beq_iff_eq, bne_eq_false_iff_eq, beq_eq_false_iff_ne, ne_eq, Int.ofNat_lt, Int.not_lt, Int.not_le, Int.ofNat_le, Nat.not_lt, Nat.not_le, gt_iff_lt, ge_iff_le] at h6
        apply G.skip
        apply G.seq
        apply G.block
        apply G.seq
        have hik : i < ks.length := by omega
        have hob : out2.length < 17592186044416 := by omega
        have hx := hrg _ (getD_mem0 hik)
        have hhd := hy.hd
        have ho2 : o2 < R2.length := by omega
        have hgr : (R2.map iv)[o2]? = some [.int .i64 (R.getD o default)] := by rw [List.getElem?_map, getD_some ho2, hy.he]; rfl
        have hrdr : rdCells (List.map iv R2) o2 0 1 = some [.int .i64 (R.getD o default)] := by simp only [rdCells, hgr]; rfl
        have hcp : (0 : Int) < (c2 : Int) := by omega
        have hdt : List.take c2 (List.drop o2 (R2.map iv)) = (R2.drop o2).map iv := by rw [← List.map_drop]; exact List.take_of_length_le (by simp; omega)
        have hdl : (R2.drop o2).length = c2 := by simp; omega
        refine G.rg tab_ok ok_implReachedFrom (hk := ?_)
        apply G.seq
        rcases (show (ks.getD i default).fr ≠ R.getD o default ∨ ((ks.getD i default).fr = R.getD o default ∧ ¬ (ks.getD i default).to ≥ 0) ∨ ((ks.getD i default).fr = R.getD o default ∧ (ks.getD i default).to ≥ 0 ∧ hasI out2 (ks.getD i default).to = true) ∨ ((ks.getD i default).fr = R.getD o default ∧ (ks.getD i default).to ≥ 0 ∧ hasI out2 (ks.getD i default).to = false) by by_cases h1 : (ks.getD i default).fr = R.getD o default <;> cases hasI out2 (ks.getD i default).to <;> simp [h1] <;> omega) with d1 | ⟨d1, d2⟩ | ⟨d1, d2, d3⟩ | ⟨d1, d2, d3⟩
        · skip
          have d1b : ((ks.getD i default).fr == R.getD o default) = false := by simpa using d1
          have hsk := ri_skip hy hik (fun e1 e2 => absurd e1 d1)
          refine G.dr mixed tab_ok ok_implReachedFrom [0, 1, 2, 3, 4, 5, 6, 7, 8, 9, 10, 11, 12, 13, 14, 15, 16, 17] (hk := ?_)
          refine G.iffF (h2 := ?_)
          apply G.skip
          apply G.blk
          refine G.rg tab_ok ok_implReachedFrom (hk := ?_)
          refine G.nm [1, 2, 6, 7, 33, 34, 35] (h := ?_)
          first
          | exact G.upto (hJ (out2, R2, o2, c2, i + 1) hsk (by simp only; omega)) (by simp)
          | exact G.upto (hJ (out2 ++ [(ks.getD i default).to], R2.drop o2 ++ [(ks.getD i default).to], 0, c2 + 1, i + 1) had (by simp only; omega)) (by simp)
        · skip
          have d1b : ((ks.getD i default).fr == R.getD o default) = true := by simpa using d1
          have hsk := ri_skip hy hik (fun e1 e2 => absurd e2 d2)
          refine G.dr mixed tab_ok ok_implReachedFrom [0, 1, 2, 3, 4, 5, 6, 7, 8, 9, 10, 11, 12, 13, 14, 15, 16, 17] (hk := ?_)
          refine G.iffF (h2 := ?_)
          apply G.skip
          apply G.blk
          refine G.rg tab_ok ok_implReachedFrom (hk := ?_)
          refine G.nm [1, 2, 6, 7, 33, 34, 35] (h := ?_)
          first
          | exact G.upto (hJ (out2, R2, o2, c2, i + 1) hsk (by simp only; omega)) (by simp)
          | exact G.upto (hJ (out2 ++ [(ks.getD i default).to], R2.drop o2 ++ [(ks.getD i default).to], 0, c2 + 1, i + 1) had (by simp only; omega)) (by simp)
        · skip
          have d1b : ((ks.getD i default).fr == R.getD o default) = true := by simpa using d1
          have hsk := ri_skip hy hik (fun e1 e2 => d3)
          refine G.dr mixed tab_ok ok_implReachedFrom [0, 1, 2, 3, 4, 5, 6, 7, 8, 9, 10, 11, 12, 13, 14, 15, 16, 17] (hk := ?_)
          refine G.iffF (h2 := ?_)
          apply G.skip
          apply G.blk
          refine G.rg tab_ok ok_implReachedFrom (hk := ?_)
          refine G.nm [1, 2, 6, 7, 33, 34, 35] (h := ?_)
          first
          | exact G.upto (hJ (out2, R2, o2, c2, i + 1) hsk (by simp only; omega)) (by simp)
          | exact G.upto (hJ (out2 ++ [(ks.getD i default).to], R2.drop o2 ++ [(ks.getD i default).to], 0, c2 + 1, i + 1) had (by simp only; omega)) (by simp)
        · skip
          have d1b : ((ks.getD i default).fr == R.getD o default) = true := by simpa using d1
          have had := ri_add hy hrg hik d1 d2 d3
          have hap1 : out2.map iv ++ [[.int .i64 (ks.getD i default).to]] = (out2 ++ [(ks.getD i default).to]).map iv := by simp [iv]
          have hap2 : (R2.drop o2).map iv ++ [[.int .i64 (ks.getD i default).to]] = (R2.drop o2 ++ [(ks.getD i default).to]).map iv := by simp [iv]
          have hq1 : ((out2.length + 1 : Nat) : Int) ≤ 4611686018427387904 := by omega
          have hq2 : (out2.length + 1) * 8 ≤ 70368744177664 := by omega
          have hq3 : ((c2 + 1 : Nat) : Int) ≤ 4611686018427387904 := by omega
          have hq4 : (c2 + 1) * 8 ≤ 70368744177664 := by omega
          refine G.dr mixed tab_ok ok_implReachedFrom [0, 1, 2, 3, 4, 5, 6, 7, 8, 9, 10, 11, 12, 13, 14, 15, 16, 17] (hk := ?_)
          refine G.iffT (h1 := ?_)
          apply G.seq
          refine G.rg tab_ok ok_implReachedFrom (hk := ?_)
          refine G.rg tab_ok ok_implReachedFrom (hk := ?_)
          apply G.blk
          refine G.fg [1, 2, 6, 7, 33, 34, 35] (hk := ?_)
          refine G.rg tab_ok ok_implReachedFrom (hk := ?_)
          refine G.nm [1, 2, 6, 7, 33, 34, 35] (h := ?_)
          first
          | exact G.upto (hJ (out2, R2, o2, c2, i + 1) hsk (by simp only; omega)) (by simp)
          | exact G.upto (hJ (out2 ++ [(ks.getD i default).to], R2.drop o2 ++ [(ks.getD i default).to], 0, c2 + 1, i + 1) had (by simp only; omega)) (by simp)
      · try simp only [decide_eq_true_eq, decide_eq_false_iff_not, Bool.and_eq_true, Bool.and_eq_false_imp, Bool.or_eq_true, Bool.or_eq_false_iff, Bool.not_eq_true', Bool.not_eq_false', bne_iff_ne, beq_iff_eq, bne_eq_false_iff_eq, beq_eq_false_iff_ne, ne_eq, Int.ofNat_lt, Int.not_lt, Int.not_le, Int.ofNat_le, Nat.not_lt, Nat.not_le, gt_iff_lt, ge_iff_le] at h6
        refine G.exit rfl ?_
        apply G.blk
        have hc1x : (1 : Int) ≤ (c2 : Int) := by have := hy.hd; omega
        refine G.rg tab_ok ok_implReachedFrom (hk := ?_)
        refine G.nm [1, 2, 6, 7] (h := ?_)
        obtain rfl : i = ks.length := Nat.le_antisymm hy.ii (by omega)
        have hend := ri_end hy (Nat.le_refl _)
        have hmm := hy.mm
        have hhd := hy.hd
        exact G.upto (hJ2 (out2, R2, o2 + 1, c2 - 1) hend (by simp only; omega)) (by simp)
    · try simp only [decide_eq_true_eq, decide_eq_false_iff_not, Bool.and_eq_true, Bool.and_eq_false_imp, Bool.or_eq_true, Bool.or_eq_false_iff, Bool.not_eq_true', Bool.not_eq_false', bne_iff_ne, beq_iff_eq, bne_eq_false_iff_eq, beq_eq_false_iff_ne, ne_eq, Int.ofNat_lt, Int.not_lt, Int.not_le, Int.ofNat_le, Nat.not_lt, Nat.not_le, gt_iff_lt, ge_iff_le] at h5
      refine G.exit rfl ?_
      apply G.seq
      have hln := RfW.len hw
      refine G.rgN 1 tab_ok ok_implReachedFrom (hk := ?_)
      refine G.cf [1] en_sortInts (sortInts_mc _ out out.length rfl (by omega) (Nat.le_refl _) (Nat.le_refl _)) (h := ?_)
      refine G.rgC tab_ok ok_implReachedFrom (hk := ?_)
      apply G.seq
      refine G.rg tab_ok ok_implReachedFrom (hk := ?_)
      obtain ⟨hnd, hmem⟩ := rf_end hw (by omega)
      have hol1 : List.take out.length ((sortI out).map iv) = (sortI out).map iv := List.take_of_length_le (by simp [sortI_len])
      have hol2 : out.length ≤ (sortI out).length := by rw [sortI_len]; exact Nat.le_refl _
      refine G.fin tab_ok (hr := ?_)
      rw [reachO_yes hnk (has_yes c2 c3), ← reach_sort hnk (by omega) hnd hmem]
      simp only [oneOrTup]
def r_implReachedFrom (xs0 : List A) (rr : A) : Prop := ∃ (ps : List PG) (ks : List LK) (p : Int), (NW ps) ∧ (KW ks) ∧ (ps.length < 3518437208781) ∧ (ks.length < 2513169434844) ∧ xs0 = [.agg [.row false 3 (ps.map pv), .row false 5 (ks.map kv)], .int .i64 p] ∧ rr = .tup [.row true 1 ((reachO ps ks p).1.map iv), .bool (reachO ps ks p).2]
noncomputable def q_implReachedFrom : List A → Option A := kgr r_implReachedFrom
theorem k_implReachedFrom : KOk Try.prog (43, q_implReachedFrom) := kgr_ok (enters_of Try.func43 rfl rfl) (by rintro xs0 rr ⟨ps, ks, p, hc1, hc2, hc3, hc4, rfl, rfl⟩; exact implReachedFrom_ac ps ks p hc1 hc2 hc3 hc4)
theorem e_implReachedFrom : ∀ (ps : List PG) (ks : List LK) (p : Int), (NW ps) → (KW ks) → (ps.length < 3518437208781) → (ks.length < 2513169434844) → q_implReachedFrom [.agg [.row false 3 (ps.map pv), .row false 5 (ks.map kv)], .int .i64 p] = some (.tup [.row true 1 ((reachO ps ks p).1.map iv), .bool (reachO ps ks p).2]) := by
  intro ps ks p hc1 hc2 hc3 hc4
  refine kgr_eq (fun xs0 rr r2 h h2 => ?_) ⟨ps, ks, p, hc1, hc2, hc3, hc4, rfl, rfl⟩
  obtain ⟨ps1, ks1, p1, _, _, _, _, e1, rfl⟩ := h; obtain ⟨ps2, ks2, p2, _, _, _, _, e2, rfl⟩ := h2
  rw [e1] at e2
  simp only [List.cons.injEq, A.int.injEq, A.agg.injEq, A.row.injEq, pv_inj, kv_inj, true_and, and_true] at e2
  obtain ⟨⟨e3, e4⟩, e5⟩ := e2
  subst e3 e4 e5
  rfl
end Go.Proofs.Ytimgfinlbhodhaa.Ab
