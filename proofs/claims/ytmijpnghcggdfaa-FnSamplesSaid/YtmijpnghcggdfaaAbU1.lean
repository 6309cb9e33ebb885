/- Walks of functions of the program: what each answers, for all arguments that meet its conditions. -/
import Derived.Test.YtmijpnghcggdfaaAbC5
import Derived.Test.YtmijpnghcggdfaaAbP23
import Derived.Test.YtmijpnghcggdfaaAbP43
import Derived.Test.YtmijpnghcggdfaaAbS1
import Derived.Test.YtmijpnghcggdfaaAbS3
import Derived.Test.YtmijpnghcggdfaaAbRuns2
import Derived.Test.YtmijpnghcggdfaaAbAutoH
namespace Go.Proofs.Ytmijpnghcggdfaa.Ab
open Go
set_option linter.unusedVariables false
set_option linter.unusedSimpArgs false
set_option maxHeartbeats 4000000

theorem ok_lawSamples : Kn.ok Try.prog (kof [(27, q_makeStream), (34, q_lawFresh), (19, q_implSample), (28, q_splitStream), (33, q_alternate), (30, q_ints), (23, q_implWrap)]) := kof_cons k_makeStream (kof_cons k_lawFresh (kof_cons k_implSample (kof_cons k_splitStream (kof_cons k_alternate (kof_cons k_ints (kof_cons k_implWrap ((kof_nil _))))))))
theorem en_implRunProcess : Enters Try.prog 35 := enters_of Try.func35 rfl rfl
theorem lawSamples_ac (bs : List Int) (hc1 : bs.length < 140737488355328) (hc2 : ∀ x ∈ bs, 0 ≤ x ∧ x ≤ 255) : AC Try.prog 8 [.row false 1 (bs.map bv)] (.bool true) := by
  have e_makeStream := e_makeStream
  have e_lawFresh := e_lawFresh
  have e_implSample := e_implSample
  have e_splitStream := e_splitStream
  have e_alternate := e_alternate
  have e_ints := e_ints
  have e_implWrap := e_implWrap
  refine AC.of tab_ok Try.func8 rfl (Nat.le_of_ble_eq_true rfl) fun w0 S0 => ?_
  change G _ _ ⟨[(0, .row false 1 (bs.map bv))], [], 215⟩
  apply G.seq
  refine G.rg tab_ok ok_lawSamples (hk := ?_)
  apply G.seq
  apply G.seq
  refine G.rg tab_ok ok_lawSamples (hk := ?_)
  refine G.iff (h1 := fun h1 => ?_) (h2 := fun h1 => ?_)
  · try simp only [decide_eq_true_eq, decide_eq_false_iff_not, Bool.and_eq_true, Bool.and_eq_false_imp, Bool.or_eq_true, Bool.or_eq_false_iff, Bool.not_eq_true', Bool.not_eq_false', bne_iff_ne, beq_iff_eq, bne_eq_false_iff_eq, beq_eq_false_iff_ne, ne_eq, Int.ofNat_lt, Int.not_lt, Int.not_le, Int.ofNat_le, Nat.not_lt, Nat.not_le, gt_iff_lt, ge_iff_le] at h1
    apply G.seq
    refine G.rg tab_ok ok_lawSamples (hk := ?_)
    refine G.fin tab_ok (hr := ?_)
    rfl
  · try simp only [decide_eq_true_eq, decide_eq_false_iff_not, Bool.and_eq_true, Bool.and_eq_false_imp, Bool.or_eq_true, Bool.or_eq_false_iff, Bool.not_eq_true', Bool.not_eq_false', bne_iff_ne, beq_iff_eq, bne_eq_false_iff_eq, beq_eq_false_iff_ne, ne_eq, Int.ofNat_lt, Int.not_lt, Int.not_le, Int.ofNat_le, Nat.not_lt, Nat.not_le, gt_iff_lt, ge_iff_le] at h1
    apply G.skip
    apply G.seq
    have hB : BW bs := ⟨hc2⟩
    clear hc2
    have hl0 : bs.length < 1099511627776 := by omega
    have hF := mkFresh_ok bs 3
    have hFl := mkFresh_len bs 3
    obtain ⟨F, hFe⟩ : ∃ x, mkFresh bs 3 = x := ⟨_, rfl⟩
    rw [hFe] at hF hFl
    have hFl0 : F.length < 1099511627776 := by omega
    obtain ⟨a, ha⟩ : ∃ x, mkStream bs 12 = x := ⟨_, rfl⟩
    obtain ⟨b, hb⟩ : ∃ x, mkStream F 12 = x := ⟨_, rfl⟩
    have hao : strOk a = true := by rw [← ha]; exact mkStream_ok bs 12
    have hbo : strOk b = true := by rw [← hb]; exact mkStream_ok F 12
    have hal : a.length ≤ 12 := by rw [← ha]; have := mkStream_len2 bs (n := 12) (by omega); omega
    have hbl : b.length ≤ 12 := by rw [← hb]; have := mkStream_len2 F (n := 12) (by omega); omega
    have hal5 : a.length < 17592186044416 := by omega
    have hbl5 : b.length < 17592186044416 := by omega
    obtain ⟨us, hAlt⟩ := alt_out hao hbo (by omega) (by omega)
    have hSpl := split_out hao (by omega)
    have hAdd := add_out hao hbo (by omega) (by omega)
    have hCop := copy_out hao (by omega)
    have hLW1 : LW [a] := fun r hr => by rw [List.mem_singleton] at hr; rw [hr]; exact hal5
    have hLW2 : LW [a, b] := fun r hr => by
      rcases List.mem_cons.1 hr with hr | hr
      · rw [hr]; exact hal5
      · rw [List.mem_singleton] at hr; rw [hr]; exact hbl5
    have hRAlt : AC Try.prog 35 [.agg [.int .i64 2, .int .i64 1, .row false 4 (altPL.map insv)], .row false 1 ([a, b].map ivL), .int .i64 500] (.tup [.row true 1 ([altL a b (altN a b)].map ovL), .row true 1 (us.map iv), .int .i64 2, .bool true]) := by
      have h := implRunProcess_ac 2 1 altPL [a, b] 500 (by decide) (by show 2 < 5864062014805; omega) (hLW2)
      rw [hAlt] at h
      exact h
    have hRSpl : AC Try.prog 35 [.agg [.int .i64 1, .int .i64 2, .row false 4 (splitL.map insv)], .row false 1 ([a].map ivL), .int .i64 500] (.tup [.row true 1 ([(part evenP a a.length).1, (part evenP a a.length).2].map ovL), .row true 1 ([(a.length : Int)].map iv), .int .i64 2, .bool true]) := by
      have h := implRunProcess_ac 1 2 splitL [a] 500 (by decide) (by show 1 < 5864062014805; omega) (hLW1)
      rw [hSpl] at h
      exact h
    have hRAdd : AC Try.prog 35 [.agg [.int .i64 2, .int .i64 1, .row false 4 (addPL.map insv)], .row false 1 ([a, b].map ivL), .int .i64 500] (.tup [.row true 1 ([addL a b (min a.length b.length)].map ovL), .row true 1 ([((min a.length (min a.length b.length + 1) : Nat) : Int), ((min a.length b.length : Nat) : Int)].map iv), .int .i64 2, .bool true]) := by
      have h := implRunProcess_ac 2 1 addPL [a, b] 500 (by decide) (by show 2 < 5864062014805; omega) (hLW2)
      rw [hAdd] at h
      exact h
    have hRCop : AC Try.prog 35 [.agg [.int .i64 1, .int .i64 2, .row false 4 (copyL.map insv)], .row false 1 ([a].map ivL), .int .i64 500] (.tup [.row true 1 ([a, a].map ovL), .row true 1 ([(a.length : Int)].map iv), .int .i64 2, .bool true]) := by
      have h := implRunProcess_ac 1 2 copyL [a] 500 (by decide) (by show 1 < 5864062014805; omega) (hLW1)
      rw [hCop] at h
      exact h
    clear hAlt hSpl hAdd hCop hLW1 hLW2
    have hp1 : sampleP { data := #[97, 108, 116, 101, 114, 110, 97, 116, 101] } = (2, 1, altPL) := by decide +kernel
    have hp2 : sampleP { data := #[115, 112, 108, 105, 116] } = (1, 2, splitL) := by decide +kernel
    have hp3 : sampleP { data := #[97, 100, 100] } = (2, 1, addPL) := by decide +kernel
    have hp4 : sampleP { data := #[99, 111, 112, 121] } = (1, 2, copyL) := by decide +kernel
    have hivl := ivL_eq
    have hft : (false == true) = false := rfl
    have htf : (true == false) = false := rfl
    have hts : ∀ x ∈ a, -999999 ≤ x ∧ x ≤ 999999 := fun x hx => by
      have h := hao
      simp only [strOk, Bool.and_eq_true, List.all_eq_true] at h
      exact tok_iff.1 (h.1 x hx)
    have htb : ∀ x ∈ b, -999999 ≤ x ∧ x ≤ 999999 := fun x hx => by
      have h := hbo
      simp only [strOk, Bool.and_eq_true, List.all_eq_true] at h
      exact tok_iff.1 (h.1 x hx)
    have htka : ∀ {j : Nat}, j < a.length → _ := fun {j} h => getD_tok hts h
    have htkb : ∀ {j : Nat}, j < b.length → _ := fun {j} h => getD_tok htb h
    clear hts htb
    have hpl := part_len evenP a a.length
    obtain ⟨EV, hEV⟩ : ∃ x, (part evenP a a.length).1 = x := ⟨_, rfl⟩
    obtain ⟨OD, hOD⟩ : ∃ x, (part evenP a a.length).2 = x := ⟨_, rfl⟩
    rw [hEV, hOD] at hpl hRSpl
    have hEVl : EV.length ≤ 12 := by omega
    have hODl : OD.length ≤ 12 := by omega
    have hEV5 : EV.length < 17592186044416 := by omega
    have hOD5 : OD.length < 17592186044416 := by omega
    clear hpl
    have hAl := altL_len a b (altN a b)
    obtain ⟨AL, hAL⟩ : ∃ x, altL a b (altN a b) = x := ⟨_, rfl⟩
    rw [hAL] at hAl hRAlt
    have hAL5 : AL.length < 17592186044416 := by unfold altN at hAl; omega
    have hALl : AL.length ≤ 400 := by unfold altN at hAl; omega
    clear hAl
    have hDl := addL_len a b (min a.length b.length)
    have hDg := addL_get a b (min a.length b.length)
    obtain ⟨AD, hAD⟩ : ∃ x, addL a b (min a.length b.length) = x := ⟨_, rfl⟩
    rw [hAD] at hDl hDg hRAdd
    obtain ⟨M, hM⟩ : ∃ x, min a.length (min a.length b.length + 1) = x := ⟨_, rfl⟩
    rw [hM] at hRAdd
    obtain ⟨N, hN⟩ : ∃ x, min a.length b.length = x := ⟨_, rfl⟩
    rw [hN] at hDl hDg hRAdd hM
    have hmin : (if b.length < a.length then (b.length : Int) else (a.length : Int)) = (N : Int) := by split <;> omega
    have hwN : IntKind.i64.wrap ((N : Int) + 1) = (N : Int) + 1 := wrap64 (by omega) (by omega)
    have hmin2 : (if (N : Int) + 1 < (a.length : Int) then (N : Int) + 1 else (a.length : Int)) = (M : Int) := by split <;> omega
    have hADl : AD.length ≤ 12 := by omega
    have hqN : ((AD.length : Int) == (N : Int)) = true := by rw [beq_iff_eq, hDl]
    have hDi : ∀ j < N, (AD.length : Int) > (j : Int) := fun j h => by rw [hDl]; omega
    have hDk : ∀ j < N, j < AD.length := fun j h => by rw [hDl]; exact h
    have hNa : N ≤ a.length := by omega
    have hNb : N ≤ b.length := by omega
    clear hDl hM hN hAD
    have hovl : ∀ x : List Int, ovL x = [A.row true 1 (x.map iv)] := fun _ => rfl
    have hbv1 := roLL_bv
    have hbv2 := noLoanLL_bv
    have hbv4 := pureLL_bv
    refine G.rg tab_ok ok_lawSamples (hk := ?_)
    apply G.seq
    refine G.rg tab_ok ok_lawSamples (hk := ?_)
    apply G.seq
    refine G.rgN 4 tab_ok ok_lawSamples (hk := ?_)
    refine G.cd [false, true, false] en_implRunProcess hRAlt (h := ?_)
    refine G.rgC tab_ok ok_lawSamples (hk := ?_)
    apply G.seq
    refine G.rgN 3 tab_ok ok_lawSamples (hk := ?_)
    refine G.cd [false, true, false] en_implRunProcess hRSpl (h := ?_)
    refine G.rgC tab_ok ok_lawSamples (hk := ?_)
    apply G.seq
    refine G.fg [3, 4, 5, 7, 8, 9, 12, 74, 75, 78, 79, 82, 83, 86, 87, 90, 91, 92, 95, 96, 97, 100, 101, 102, 105, 106, 107, 110, 111, 112, 129, 130, 131, 132, 133, 134, 135, 136, 137, 138, 139, 140, 141, 142, 143, 144, 145, 146, 147, 148, 149, 150, 151, 152, 154, 155, 156, 157, 158, 159, 160, 161, 162, 163, 164, 165, 166, 167, 168, 169, 170, 171, 172, 173, 174, 175, 176, 177, 178, 179, 180, 181, 182, 183, 184, 185, 186, 187, 188, 189, 190, 191, 192, 193, 194, 195, 196, 197, 198, 199, 200, 201, 202, 203, 204, 205, 206, 207, 208, 209, 210, 211, 212, 213, 214] (hk := ?_)
    refine G.fg [3, 4, 5, 7, 8, 9, 12] (hk := ?_)
    refine G.rgN 4 tab_ok ok_lawSamples (hk := ?_)
    refine G.cd [false, true, false] en_implRunProcess hRAdd (h := ?_)
    refine G.rgC tab_ok ok_lawSamples (hk := ?_)
    apply G.seq
    refine G.fg [3, 4, 5, 7, 8, 9, 12, 13, 14, 16] (hk := ?_)
    refine G.rgN 3 tab_ok ok_lawSamples (hk := ?_)
    refine G.cd [false, true, false] en_implRunProcess hRCop (h := ?_)
    refine G.rgC tab_ok ok_lawSamples (hk := ?_)
    apply G.seq
    apply G.seq
    refine G.fg [3, 4, 5, 7, 8, 9, 12, 13, 14, 16, 17, 20] (hk := ?_)
    refine G.rgN 1 tab_ok ok_lawSamples (hk := ?_)
    refine G.rdN 14 tab_ok ok_lawSamples (hk := ?_)
    refine G.rdN 14 tab_ok ok_lawSamples (hk := ?_)
    refine G.rdC tab_ok ok_lawSamples (hk := ?_)
    refine G.iffF (h2 := ?_)
    apply G.skip
    apply G.seq
    refine G.fg [3, 4, 5, 9, 13, 14, 17, 129, 130, 131, 132, 133, 134, 135, 136, 137, 138, 139, 140, 141, 142, 143, 144, 145, 146, 147, 148, 149, 150, 151, 152, 154, 155, 156, 157, 158, 159, 160, 161, 162, 163, 164, 165, 166, 167, 168, 169, 170, 171, 172, 173, 174, 175, 176, 177, 178, 179, 180, 181, 182, 183, 184, 185, 186, 187, 188, 189, 190, 191, 192, 193, 194, 195, 196, 197, 198, 199, 200, 201, 202, 203, 204, 205, 206, 207, 208, 209, 210, 211, 212, 213, 214] (hk := ?_)
    refine G.rg tab_ok ok_lawSamples (hk := ?_)
    apply G.seq
    refine G.rg tab_ok ok_lawSamples (hk := ?_)
    apply G.seq
    apply G.seq
    refine G.rg tab_ok ok_lawSamples (hk := ?_)
    apply G.block
    refine G.nm [3, 4, 5, 9, 13, 14, 17, 21, 22, 23, 24] (h := ?_)
    refine G.focus 2 0 0 rfl rfl rfl ?_
    simp only [withH]
    refine G.focus 3 0 0 rfl rfl rfl ?_
    simp only [withH]
    refine G.focus 3 1 0 rfl rfl rfl ?_
    simp only [withH]
    refine G.focus 4 0 0 rfl rfl rfl ?_
    simp only [withH]
    refine G.focus 6 0 0 rfl rfl rfl ?_
    simp only [withH]
    refine G.focus 6 1 0 rfl rfl rfl ?_
    simp only [withH]
    refine G.nm [3, 4, 5, 9, 13, 14, 17, 21, 22, 23, 24] (h := ?_)
    refine G.loopX (fun j : Nat => ⟨[(3, .sl 0 0 a.length), (4, .sl 1 0 b.length), (5, .sl 2 0 1), (9, .sl 3 0 2), (13, .sl 4 0 1), (14, .sl 5 0 2), (17, .sl 6 0 2), (21, .sl 7 0 EV.length), (22, .sl 8 0 OD.length), (23, .int .i64 N), (24, .int .i64 j)], [some (1, List.map iv a), some (1, List.map iv b), some (1, [[.sl 9 0 AL.length]]), some (1, [[.sl 10 0 EV.length], [.sl 11 0 OD.length]]), some (1, [[.sl 12 0 AD.length]]), some (1, [[.int .i64 M], [.int .i64 N]]), some (1, [[.sl 13 0 a.length], [.sl 14 0 a.length]]), some (1, List.map iv EV), some (1, List.map iv OD), some (1, List.map iv AL), some (1, List.map iv EV), some (1, List.map iv OD), some (1, List.map iv AD), some (1, List.map iv a), some (1, List.map iv a)], 215⟩) (fun j => j ≤ N) (fun j => N - j) (0) (Nat.zero_le _) (by simp) ?_
    intro j hj J hJ
    have hw : IntKind.i64.wrap ((j : Int) + 1) = (j : Int) + 1 := wrap64 (by omega) (by omega)
    apply G.seq
    apply G.seq
    refine G.rg tab_ok ok_lawSamples (hk := ?_)
    refine G.iff (h1 := fun h3 => ?_) (h2 := fun h3 => ?_)
    · try simp only [decide_eq_true_eq, decide_eq_false_iff_not, Bool.and_eq_true, Bool.and_eq_false_imp, Bool.or_eq_true, Bool.or_eq_false_iff, Bool.not_eq_true', Bool.not_eq_false', bne_iff_ne, beq_iff_eq, bne_eq_false_iff_eq, beq_eq_false_iff_ne, ne_eq, Int.ofNat_lt, Int.not_lt, Int.not_le, Int.ofNat_le, Nat.not_lt, Nat.not_le, gt_iff_lt, ge_iff_le] at h3
      apply G.skip
      apply G.seq
      apply G.block
      apply G.seq
      have h5a : j < a.length := by omega
      have h5b : j < b.length := by omega
      have h5d := hDk j h3
      have hja := htka h5a
      have hjb := htkb h5b
      have hge : ¬ ((j : Int) ≥ (AD.length : Int)) := by have := hDi j h3; omega
      have hgd := hDg j h3
      have hwab : IntKind.i64.wrap (a.getD j default + b.getD j default) = a.getD j default + b.getD j default := wrap64 (by omega) (by omega)
      refine G.dr mixed tab_ok ok_lawSamples [0, 1, 2, 3, 4, 5, 6, 7, 8, 9, 10, 11, 12, 13, 14, 15, 16, 17, 18, 19, 20, 21, 22, 23, 24] (hk := ?_)
      refine G.iffF (h2 := ?_)
      apply G.skip
      apply G.blk
      refine G.rg tab_ok ok_lawSamples (hk := ?_)
      refine G.nm [3, 4, 5, 9, 13, 14, 17, 21, 22, 23, 24] (h := ?_)
      exact G.upto (hJ (j + 1) (by omega) (by omega)) (by simp)
    · try simp only [decide_eq_true_eq, decide_eq_false_iff_not, Bool.and_eq_true, Bool.and_eq_false_imp, Bool.or_eq_true, Bool.or_eq_false_iff, Bool.not_eq_true', Bool.not_eq_false', bne_iff_ne, beq_iff_eq, bne_eq_false_iff_eq, beq_eq_false_iff_ne, ne_eq, Int.ofNat_lt, Int.not_lt, Int.not_le, Int.ofNat_le, Nat.not_lt, Nat.not_le, gt_iff_lt, ge_iff_le] at h3
      refine G.exit rfl ?_
      apply G.seq
      refine G.fg [3, 4, 5, 9, 13, 14, 17, 21, 22, 23] (hk := ?_)
      apply G.joinR
      · intro hk
        refine G.drawL (c := ⟨Try.prog, tab, _, _, _, _, _⟩) mixed tab_ok ok_lawSamples 62 ?_ rfl
        refine AnyL.gg (n := 49) 13 [0, 1, 2, 3, 4, 5, 6, 7, 8, 9, 10, 11, 12] (h := ?_)
        refine AnyL.gg (n := 36) 13 [13, 14, 15, 16, 17, 18, 19, 20, 21, 22, 23, 24, 25] (h := ?_)
        refine AnyL.gg (n := 23) 13 [26, 27, 28, 29, 30, 31, 32, 33, 34, 35, 36, 37, 38] (h := ?_)
        refine AnyL.gg (n := 10) 13 [39, 40, 41, 42, 43, 44, 45, 46, 47, 48, 49, 50, 51] (h := ?_)
        refine AnyL.gg (n := 0) 10 [52, 53, 54, 55, 56, 57, 58, 59, 60, 61] (h := ?_)
        exact AnyL.ln [2] (h := hk)
      refine G.fin tab_ok (hr := ?_)
      rfl

end Go.Proofs.Ytmijpnghcggdfaa.Ab
