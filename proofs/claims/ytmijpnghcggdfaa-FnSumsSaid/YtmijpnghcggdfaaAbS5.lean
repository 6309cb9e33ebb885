/- Walks of functions of the program: what each answers, for all arguments that meet its conditions. -/
import Derived.Test.YtmijpnghcggdfaaAbT1
import Derived.Test.YtmijpnghcggdfaaAbC4
import Derived.Test.YtmijpnghcggdfaaAbS1
import Derived.Test.YtmijpnghcggdfaaAbS2
import Derived.Test.YtmijpnghcggdfaaAbS3
import Derived.Test.YtmijpnghcggdfaaAbP15
namespace Go.Proofs.Ytmijpnghcggdfaa.Ab
open Go
set_option linter.unusedVariables false
set_option linter.unusedSimpArgs false
set_option maxHeartbeats 4000000

theorem ok_lawSums : Kn.ok Try.prog (kof [(27, q_makeStream), (24, q_lawAt), (28, q_splitStream), (29, q_routeStream), (14, q_implHold), (32, q_sumsOf), (31, q_stepsOf), (30, q_ints), (33, q_alternate)]) := kof_cons k_makeStream (kof_cons k_lawAt (kof_cons k_splitStream (kof_cons k_routeStream (kof_cons k_implHold (kof_cons k_sumsOf (kof_cons k_stepsOf (kof_cons k_ints (kof_cons k_alternate ((kof_nil _))))))))))
theorem gmem {l : List Int} {j : Nat} (h : j < l.length) : l.getD j default ∈ l := by
  rw [List.getD_eq_getElem?_getD, List.getElem?_eq_getElem h]
  exact List.getElem_mem h
theorem lawSums_ac (bs : List Int) (hc1 : bs.length < 140737488355328) (hc2 : ∀ x ∈ bs, 0 ≤ x ∧ x ≤ 255) : AC Try.prog 6 [.row false 1 (bs.map bv)] (.bool true) := by
  have e_makeStream := e_makeStream
  have e_lawAt := e_lawAt
  have e_splitStream := e_splitStream
  have e_routeStream := e_routeStream
  have e_implHold := e_implHold
  have e_sumsOf := e_sumsOf
  have e_stepsOf := e_stepsOf
  have e_ints := e_ints
  have e_alternate := e_alternate
  refine AC.of tab_ok Try.func6 rfl (Nat.le_of_ble_eq_true rfl) fun w0 S0 => ?_
  change G _ _ ⟨[(0, .row false 1 (bs.map bv))], [], 102⟩
  apply G.seq
  refine G.rg tab_ok ok_lawSums (hk := ?_)
  apply G.seq
  apply G.seq
  refine G.rg tab_ok ok_lawSums (hk := ?_)
  refine G.iff (h1 := fun h1 => ?_) (h2 := fun h1 => ?_)
  · try simp only [decide_eq_true_eq, decide_eq_false_iff_not, Bool.and_eq_true, Bool.and_eq_false_imp, Bool.or_eq_true, Bool.or_eq_false_iff, Bool.not_eq_true', Bool.not_eq_false', bne_iff_ne, beq_iff_eq, bne_eq_false_iff_eq, beq_eq_false_iff_ne, ne_eq, Int.ofNat_lt, Int.not_lt, Int.not_le, Int.ofNat_le, Nat.not_lt, Nat.not_le, gt_iff_lt, ge_iff_le] at h1
    apply G.seq
    refine G.rg tab_ok ok_lawSums (hk := ?_)
    refine G.fin tab_ok (hr := ?_)
    rfl
  · try simp only [decide_eq_true_eq, decide_eq_false_iff_not, Bool.and_eq_true, Bool.and_eq_false_imp, Bool.or_eq_true, Bool.or_eq_false_iff, Bool.not_eq_true', Bool.not_eq_false', bne_iff_ne, beq_iff_eq, bne_eq_false_iff_eq, beq_eq_false_iff_ne, ne_eq, Int.ofNat_lt, Int.not_lt, Int.not_le, Int.ofNat_le, Nat.not_lt, Nat.not_le, gt_iff_lt, ge_iff_le] at h1
    apply G.skip
    apply G.seq
    have hB : BW bs := ⟨hc2⟩
    clear hc2
    have hl0 : bs.length < 1099511627776 := by omega
    have hl00 : bs.length ≤ 1099511627776 := by omega
    obtain ⟨s, hs⟩ : ∃ x, mkStream bs 30 = x := ⟨_, rfl⟩
    have hso : strOk s = true := by rw [← hs]; exact mkStream_ok bs 30
    have hsl : s.length ≤ 100 := by rw [← hs]; exact mkStream_len bs 30
    have hsl5 : s.length < 17592186044416 := by omega
    have hts : ∀ x ∈ s, -999999 ≤ x ∧ x ≤ 999999 := fun x hx => by
      have h := hso
      simp only [strOk, Bool.and_eq_true, List.all_eq_true] at h
      exact tok_iff.1 (h.1 x hx)
    have ha := atO_ok hB (k := 1) (by omega)
    have ht5 := tmod_lt (atO bs 1) 5 (by omega)
    have ht6 : 0 ≤ (atO bs 1).tmod 5 := Int.tmod_nonneg _ ha.1
    obtain ⟨m, hm⟩ : ∃ x, 1 + (atO bs 1).tmod 5 = x := ⟨_, rfl⟩
    have hm0 : 0 < m := by omega
    have hmz : ¬ m = 0 := by omega
    have hwm : IntKind.i64.wrap m = m := wrap64 (by omega) (by omega)
    clear ha ht5 ht6
    have hre := part_ok evenP hts s.length (Nat.le_refl _)
    have hle := part_len evenP s s.length
    have hae := alt_even s s.length (Nat.le_refl _)
    have hne := altN_even s (by omega)
    have hr := route_one s m s.length
    have hlr := part_len (routeP s m) s s.length
    obtain ⟨EV, hEV⟩ : ∃ x, (part evenP s s.length).1 = x := ⟨_, rfl⟩
    obtain ⟨OD, hOD⟩ : ∃ x, (part evenP s s.length).2 = x := ⟨_, rfl⟩
    obtain ⟨ON, hON⟩ : ∃ x, (part (routeP s m) s s.length).1 = x := ⟨_, rfl⟩
    obtain ⟨TW, hTW⟩ : ∃ x, (part (routeP s m) s s.length).2 = x := ⟨_, rfl⟩
    rw [hEV, hOD] at hre hle hae hne
    rw [hON, hTW] at hr hlr
    rw [List.take_length] at hae
    have hEVl : EV.length ≤ 100 := by omega
    have hODl : OD.length ≤ 100 := by omega
    have hONl : ON.length ≤ 100 := by omega
    have hTWl : TW.length ≤ 100 := by omega
    have hEVo : strOk EV = true := strOk_mk hre.1 (by omega)
    have hODo : strOk OD = true := strOk_mk hre.2 (by omega)
    have halt : altL EV OD (altN EV OD) = s := by rw [hne]; exact hae
    have hbl : IntKind.i64.wrap ((ON.length : Int) + (TW.length : Int)) = (ON.length : Int) + (TW.length : Int) := wrap64 (by omega) (by omega)
    have hbe : ((ON.length : Int) + (TW.length : Int) == (s.length : Int)) = true := by rw [beq_iff_eq]; omega
    clear hlr hle hae hne hre
    have h3l := holdL_len 3 s
    obtain ⟨HL, hHL⟩ : ∃ x, holdL 3 s = x := ⟨_, rfl⟩
    rw [hHL] at h3l
    have hho : holdOut s 3 = (HL, true) := by
      have hb : holdBad s 3 = false := by unfold holdBad; rw [hso]; simp
      have hg : holdL (3 : Int).toNat s = HL := hHL
      have h4 : strOk HL = true := by
        refine strOk_mk (fun x hx => ?_) (by omega)
        rw [← hHL] at hx
        simp only [holdL, List.mem_flatMap] at hx
        obtain ⟨y, hy, hx⟩ := hx
        rw [(List.mem_replicate.1 hx).2]
        exact hts y hy
      unfold holdOut
      rw [hb, hg, h4]
      rfl
    have hHLl : HL.length ≤ 300 := by omega
    have hw3 : IntKind.i64.wrap (3 * (s.length : Int)) = 3 * (s.length : Int) := wrap64 (by omega) (by omega)
    have hb3 : ((HL.length : Int) == 3 * (s.length : Int)) = true := by rw [beq_iff_eq]; omega
    clear h3l hHL
    have h5 := steps_sums hts s.length (Nat.le_refl _)
    have h6 := sums_steps hts s.length (Nat.le_refl _)
    have h7 := sumsL_len s s.length
    have h8 := stepsL_len s s.length
    have h9 := (sumsL_ok s s.length).1
    have h10 := stepsL_ok s s.length
    rw [List.take_length] at h5 h6
    obtain ⟨SM, hSM⟩ : ∃ x, (sumsL s s.length).1 = x := ⟨_, rfl⟩
    obtain ⟨ST, hST⟩ : ∃ x, stepsL s s.length = x := ⟨_, rfl⟩
    rw [hSM] at h5 h7 h9
    rw [hST] at h6 h8 h10
    have hSMo : strOk SM = true := strOk_mk h9 (by omega)
    have hSTo : strOk ST = true := strOk_mk h10 (by omega)
    have hss : stepsL SM SM.length = s := by rw [h7]; exact h5
    have hsu : (sumsL ST ST.length).1 = s := by rw [h8, h6]
    have hSMl : SM.length ≤ 100 := by omega
    have hSTl : ST.length ≤ 100 := by omega
    clear h5 h6 h7 h8 h9 h10 hts
    have hr1 := hr.1
    have hr2 := hr.2
    clear hr
    have hft : (false == true) = false := rfl
    have htf : (true == false) = false := rfl
    refine G.rg tab_ok ok_lawSums (hk := ?_)
    apply G.seq
    refine G.rg tab_ok ok_lawSums (hk := ?_)
    apply G.seq
    refine G.rg tab_ok ok_lawSums (hk := ?_)
    apply G.seq
    refine G.rg tab_ok ok_lawSums (hk := ?_)
    apply G.seq
    apply G.seq
    refine G.rg tab_ok ok_lawSums (hk := ?_)
    apply G.block
    refine G.nm [3, 4, 5, 6, 7, 8, 35, 36, 37] (h := ?_)
    refine G.loopX (fun j : Nat => ⟨[(3, .sl 0 0 s.length), (4, .int .i64 m), (5, .sl 1 0 EV.length), (6, .sl 2 0 OD.length), (7, .sl 3 0 ON.length), (8, .sl 4 0 TW.length), (35, .sl 3 0 ON.length), (36, .int .i64 ON.length), (37, .int .i64 j)], [some (1, s.map iv), some (1, EV.map iv), some (1, OD.map iv), some (1, ON.map iv), some (1, TW.map iv)], 102⟩) (fun j => j ≤ ON.length) (fun j => ON.length - j) (0) (Nat.zero_le _) (by simp) ?_
    intro j hj J hJ
    have hw : IntKind.i64.wrap ((j : Int) + 1) = (j : Int) + 1 := wrap64 (by omega) (by omega)
    apply G.seq
    refine G.rg tab_ok ok_lawSums (hk := ?_)
    apply G.seq
    refine G.iff (h1 := fun h2 => ?_) (h2 := fun h2 => ?_)
    · try simp only [decide_eq_true_eq, decide_eq_false_iff_not, Bool.and_eq_true, Bool.and_eq_false_imp, Bool.or_eq_true, Bool.or_eq_false_iff, Bool.not_eq_true', Bool.not_eq_false', bne_iff_ne, beq_iff_eq, bne_eq_false_iff_eq, beq_eq_false_iff_ne, ne_eq, Int.ofNat_lt, Int.not_lt, Int.not_le, Int.ofNat_le, Nat.not_lt, Nat.not_le, gt_iff_lt, ge_iff_le] at h2
      apply G.skip
      apply G.seq
      apply G.block
      apply G.seq
      have hz := hr1 _ (gmem h2)
      refine G.rg tab_ok ok_lawSums (hk := ?_)
      apply G.seq
      refine G.rg tab_ok ok_lawSums (hk := ?_)
      refine G.iffF (h2 := ?_)
      apply G.skip
      apply G.blk
      refine G.rg tab_ok ok_lawSums (hk := ?_)
      refine G.nm [3, 4, 5, 6, 7, 8, 35, 36, 37] (h := ?_)
      exact G.upto (hJ (j + 1) (by omega) (by omega)) (by simp)
    · try simp only [decide_eq_true_eq, decide_eq_false_iff_not, Bool.and_eq_true, Bool.and_eq_false_imp, Bool.or_eq_true, Bool.or_eq_false_iff, Bool.not_eq_true', Bool.not_eq_false', bne_iff_ne, beq_iff_eq, bne_eq_false_iff_eq, beq_eq_false_iff_ne, ne_eq, Int.ofNat_lt, Int.not_lt, Int.not_le, Int.ofNat_le, Nat.not_lt, Nat.not_le, gt_iff_lt, ge_iff_le] at h2
      refine G.exit rfl ?_
      apply G.seq
      apply G.seq
      refine G.rg tab_ok ok_lawSums (hk := ?_)
      apply G.block
      refine G.nm [3, 4, 5, 6, 7, 8, 46, 47, 48] (h := ?_)
      refine G.loopX (fun q : Nat => ⟨[(3, .sl 0 0 s.length), (4, .int .i64 m), (5, .sl 1 0 EV.length), (6, .sl 2 0 OD.length), (7, .sl 3 0 ON.length), (8, .sl 4 0 TW.length), (46, .sl 4 0 TW.length), (47, .int .i64 TW.length), (48, .int .i64 q)], [some (1, s.map iv), some (1, EV.map iv), some (1, OD.map iv), some (1, ON.map iv), some (1, TW.map iv)], 102⟩) (fun q => q ≤ TW.length) (fun q => TW.length - q) (0) (Nat.zero_le _) (by simp) ?_
      intro q hq J hJ
      have hw : IntKind.i64.wrap ((q : Int) + 1) = (q : Int) + 1 := wrap64 (by omega) (by omega)
      apply G.seq
      refine G.rg tab_ok ok_lawSums (hk := ?_)
      apply G.seq
      refine G.iff (h1 := fun h4 => ?_) (h2 := fun h4 => ?_)
      · try simp only [decide_eq_true_eq, decide_eq_false_iff_not, Bool.and_eq_true, Bool.and_eq_false_imp, Bool.or_eq_true, Bool.or_eq_false_iff, Bool.not_eq_true', Bool.not_eq_false', bne_iff_ne, beq_iff_eq, bne_eq_false_iff_eq, beq_eq_false_iff_ne, ne_eq, Int.ofNat_lt, Int.not_lt, Int.not_le, Int.ofNat_le, Nat.not_lt, Nat.not_le, gt_iff_lt, ge_iff_le] at h4
        apply G.skip
        apply G.seq
        apply G.block
        apply G.seq
        have hz := hr2 _ (gmem h4)
        have hbz : ((TW.getD q default).tmod m == 0) = false := beq_eq_false_iff_ne.2 hz
        clear hz
        refine G.rg tab_ok ok_lawSums (hk := ?_)
        apply G.seq
        refine G.rg tab_ok ok_lawSums (hk := ?_)
        refine G.iffF (h2 := ?_)
        apply G.skip
        apply G.blk
        refine G.rg tab_ok ok_lawSums (hk := ?_)
        refine G.nm [3, 4, 5, 6, 7, 8, 46, 47, 48] (h := ?_)
        exact G.upto (hJ (q + 1) (by omega) (by omega)) (by simp)
      · try simp only [decide_eq_true_eq, decide_eq_false_iff_not, Bool.and_eq_true, Bool.and_eq_false_imp, Bool.or_eq_true, Bool.or_eq_false_iff, Bool.not_eq_true', Bool.not_eq_false', bne_iff_ne, beq_iff_eq, bne_eq_false_iff_eq, beq_eq_false_iff_ne, ne_eq, Int.ofNat_lt, Int.not_lt, Int.not_le, Int.ofNat_le, Nat.not_lt, Nat.not_le, gt_iff_lt, ge_iff_le] at h4
        refine G.exit rfl ?_
        apply G.seq
        refine G.rg tab_ok ok_lawSums (hk := ?_)
        apply G.seq
        refine G.fg [3, 5, 6, 7, 8, 13, 14] (hk := ?_)
        refine G.rgN 4 tab_ok ok_lawSums (hk := ?_)
        refine G.rdN 6 tab_ok ok_lawSums (hk := ?_)
        refine G.rdN 7 tab_ok ok_lawSums (hk := ?_)
        refine G.rdN 7 tab_ok ok_lawSums (hk := ?_)
        refine G.rdC tab_ok ok_lawSums (hk := ?_)
        refine G.fin tab_ok (hr := ?_)
        rfl

end Go.Proofs.Ytmijpnghcggdfaa.Ab
