/- Walks of functions of the program: what each answers, for all arguments that meet its conditions. -/
import Derived.Test.YticgaflgbljhlaaAbC5
import Derived.Test.YticgaflgbljhlaaAbT1
import Derived.Test.YticgaflgbljhlaaAbZ3
import Derived.Test.YticgaflgbljhlaaFwGc
import Derived.Test.YticgaflgbljhlaaAbP43
import Derived.Test.YticgaflgbljhlaaAbRuns2
import Derived.Test.YticgaflgbljhlaaAbRuns3
import Derived.Test.YticgaflgbljhlaaFwGa
namespace Go.Proofs.Yticgaflgbljhlaa.Ab
open Go
set_option linter.unusedVariables false
set_option linter.unusedSimpArgs false
set_option maxHeartbeats 4000000
theorem ok_lawPicked : Kn.ok Try.prog (kof [(56, q_makeStream), (57, q_lawAt), (58, q_lawFresh), (60, q_implSample), (61, q_ints)]) := kof_cons k_makeStream (kof_cons k_lawAt (kof_cons k_lawFresh (kof_cons k_implSample (kof_cons k_ints ((kof_nil _))))))
theorem en_implRunProcess : Enters Try.prog 59 := enters_of Try.func59 rfl rfl
theorem lawPicked_ac (bs : List Int) (hc1 : bs.length < 140737488355328) (hc2 : ∀ x ∈ bs, 0 ≤ x ∧ x ≤ 255) : AC Try.prog 14 [.row false 1 (bs.map bv)] (.bool true) := by
  have e_makeStream := e_makeStream
  have e_lawAt := e_lawAt
  have e_lawFresh := e_lawFresh
  have e_implSample := e_implSample
  have e_ints := e_ints
  refine AC.of tab_ok Try.func14 rfl (Nat.le_of_ble_eq_true rfl) fun w0 S0 => ?_
  change G _ _ ⟨[(0, .row false 1 (bs.map bv))], [], 124⟩
  apply G.seq
  refine G.rg tab_ok ok_lawPicked (hk := ?_)
  apply G.seq
  apply G.seq
  refine G.rg tab_ok ok_lawPicked (hk := ?_)
  refine G.iff (h1 := fun h1 => ?_) (h2 := fun h1 => ?_)
  · try simp only [decide_eq_true_eq, decide_eq_false_iff_not, Bool.and_eq_true, Bool.and_eq_false_imp, Bool.or_eq_true, Bool.or_eq_false_iff, Bool.not_eq_true', Bool.not_eq_false', bne_iff_ne, beq_iff_eq, bne_eq_false_iff_eq, beq_eq_false_iff_ne, ne_eq, Int.ofNat_lt, Int.not_lt, Int.not_le, Int.ofNat_le, Nat.not_lt, Nat.not_le, gt_iff_lt, ge_iff_le] at h1
    apply G.seq
    refine G.rg tab_ok ok_lawPicked (hk := ?_)
    refine G.fin tab_ok (hr := ?_)
    rfl
  · try simp only [decide_eq_true_eq, decide_eq_false_iff_not, Bool.and_eq_true, Bool.and_eq_false_imp, Bool.or_eq_true, Bool.or_eq_false_iff, Bool.not_eq_true', Bool.not_eq_false', bne_iff_ne, beq_iff_eq, bne_eq_false_iff_eq, beq_eq_false_iff_ne, ne_eq, Int.ofNat_lt, Int.not_lt, Int.not_le, Int.ofNat_le, Nat.not_lt, Nat.not_le, gt_iff_lt, ge_iff_le] at h1
    apply G.skip
    apply G.seq
    have hB : BW bs := ⟨hc2⟩
    clear hc2
    have hl0 : bs.length < 1099511627776 := by omega
    have hl00 : bs.length ≤ 1099511627776 := by omega
    have hF3 := mkFresh_ok bs 3
    have hF3l := mkFresh_len bs 3
    have hF5 := mkFresh_ok bs 5
    have hF5l := mkFresh_len bs 5
    obtain ⟨F3, hFe3⟩ : ∃ x, mkFresh bs 3 = x := ⟨_, rfl⟩
    obtain ⟨F5, hFe5⟩ : ∃ x, mkFresh bs 5 = x := ⟨_, rfl⟩
    rw [hFe3] at hF3 hF3l
    rw [hFe5] at hF5 hF5l
    have hF3m : F3.length < 1099511627776 := by omega
    have hF5m : F5.length < 1099511627776 := by omega
    obtain ⟨s, hs⟩ : ∃ x, mkStream bs 12 = x := ⟨_, rfl⟩
    obtain ⟨a, ha⟩ : ∃ x, mkStream F3 9 = x := ⟨_, rfl⟩
    obtain ⟨b, hb⟩ : ∃ x, mkStream F5 9 = x := ⟨_, rfl⟩
    have hso : strOk s = true := by rw [← hs]; exact mkStream_ok bs 12
    have hao : strOk a = true := by rw [← ha]; exact mkStream_ok F3 9
    have hbo : strOk b = true := by rw [← hb]; exact mkStream_ok F5 9
    have hsl : s.length ≤ 12 := by rw [← hs]; have := mkStream_len2 bs (n := 12) (by omega); omega
    have hal : a.length ≤ 9 := by rw [← ha]; have := mkStream_len2 F3 (n := 9) (by omega); omega
    have hbl : b.length ≤ 9 := by rw [← hb]; have := mkStream_len2 F5 (n := 9) (by omega); omega
    have hts : ∀ x ∈ s, -999999 ≤ x ∧ x ≤ 999999 := fun x hx => by
      have h := hso
      simp only [strOk, Bool.and_eq_true, List.all_eq_true] at h
      exact tok_iff.1 (h.1 x hx)
    have hal5 : a.length < 17592186044416 := by omega
    have hbl5 : b.length < 17592186044416 := by omega
    have hp1 : sampleP { data := #[112, 105, 99, 107] } = (3, 1, pickL) := by decide +kernel
    have hbv1 := roLL_bv
    have hbv2 := noLoanLL_bv
    have hbv4 := pureLL_bv
    have hft : (false == true) = false := rfl
    have htf : (true == false) = false := rfl
    refine G.rg tab_ok ok_lawPicked (hk := ?_)
    apply G.seq
    apply G.seq
    refine G.rg tab_ok ok_lawPicked (hk := ?_)
    apply G.block
    refine G.nm [0, 3, 22, 23] (h := ?_)
    refine G.loopX (fun j : Nat => ⟨[(0, .row false 1 (bs.map bv)), (3, .sl 0 0 s.length), (22, .int .i64 s.length), (23, .int .i64 j)], [some (1, (ctl bs s j).map iv)], 124⟩) (fun j => j ≤ s.length) (fun j => s.length - j) (0) (Nat.zero_le _) (by simp [ctl]) ?_
    intro j hj J hJ
    have hw : IntKind.i64.wrap ((j : Int) + 1) = (j : Int) + 1 := wrap64 (by omega) (by omega)
    have hj9 : (j : Int) ≤ 1000000000 := by omega
    have hcl := ctl_len bs s j
    apply G.seq
    refine G.rg tab_ok ok_lawPicked (hk := ?_)
    apply G.seq
    refine G.iff (h1 := fun h2 => ?_) (h2 := fun h2 => ?_)
    · try simp only [decide_eq_true_eq, decide_eq_false_iff_not, Bool.and_eq_true, Bool.and_eq_false_imp, Bool.or_eq_true, Bool.or_eq_false_iff, Bool.not_eq_true', Bool.not_eq_false', bne_iff_ne, beq_iff_eq, bne_eq_false_iff_eq, beq_eq_false_iff_ne, ne_eq, Int.ofNat_lt, Int.not_lt, Int.not_le, Int.ofNat_le, Nat.not_lt, Nat.not_le, gt_iff_lt, ge_iff_le] at h2
      apply G.skip
      apply G.seq
      apply G.block
      apply G.seq
      refine G.rg tab_ok ok_lawPicked (hk := ?_)
      apply G.seq
      refine G.rg tab_ok ok_lawPicked (hk := ?_)
      refine G.iff (h1 := fun h3 => ?_) (h2 := fun h3 => ?_)
      · try simp only [decide_eq_true_eq, decide_eq_false_iff_not, Bool.and_eq_true, Bool.and_eq_false_imp, Bool.or_eq_true, Bool.or_eq_false_iff, Bool.not_eq_true', Bool.not_eq_false', bne_iff_ne, beq_iff_eq, bne_eq_false_iff_eq, beq_eq_false_iff_ne, ne_eq, Int.ofNat_lt, Int.not_lt, Int.not_le, Int.ofNat_le, Nat.not_lt, Nat.not_le, gt_iff_lt, ge_iff_le] at h3
        have hjl : j < (ctl bs s j).length := by omega
        have hgj : (List.map iv (ctl bs s j))[j]? = some [.int .i64 ((ctl bs s j).getD j default)] := by simp [hjl, iv, List.getD_eq_getElem?_getD]
        have hset : List.set (List.map iv (ctl bs s j)) j [A.int .i64 0] = List.map iv ((ctl bs s j).set j 0) := by rw [List.map_set]; rfl
        refine G.rg tab_ok ok_lawPicked (hk := ?_)
        apply G.blk
        refine G.rg tab_ok ok_lawPicked (hk := ?_)
        refine G.nm [0, 3, 22, 23] (h := ?_)
        exact G.upto (hJ (j + 1) (by omega) (by omega)) (by rw [ctl]; first | (rw [if_pos h3]; simp; done) | (rw [if_neg h3]; simp; done))
      · try simp only [decide_eq_true_eq, decide_eq_false_iff_not, Bool.and_eq_true, Bool.and_eq_false_imp, Bool.or_eq_true, Bool.or_eq_false_iff, Bool.not_eq_true', Bool.not_eq_false', bne_iff_ne, beq_iff_eq, bne_eq_false_iff_eq, beq_eq_false_iff_ne, ne_eq, Int.ofNat_lt, Int.not_lt, Int.not_le, Int.ofNat_le, Nat.not_lt, Nat.not_le, gt_iff_lt, ge_iff_le] at h3
        apply G.skip
        apply G.blk
        refine G.rg tab_ok ok_lawPicked (hk := ?_)
        refine G.nm [0, 3, 22, 23] (h := ?_)
        exact G.upto (hJ (j + 1) (by omega) (by omega)) (by rw [ctl]; first | (rw [if_pos h3]; simp; done) | (rw [if_neg h3]; simp; done))
    · try simp only [decide_eq_true_eq, decide_eq_false_iff_not, Bool.and_eq_true, Bool.and_eq_false_imp, Bool.or_eq_true, Bool.or_eq_false_iff, Bool.not_eq_true', Bool.not_eq_false', bne_iff_ne, beq_iff_eq, bne_eq_false_iff_eq, beq_eq_false_iff_ne, ne_eq, Int.ofNat_lt, Int.not_lt, Int.not_le, Int.ofNat_le, Nat.not_lt, Nat.not_le, gt_iff_lt, ge_iff_le] at h2
      refine G.exit rfl ?_
      apply G.seq
      obtain rfl : j = s.length := by omega
      have hcl := ctl_len bs s s.length
      have hco : strOk (ctl bs s s.length) = true := strOk_mk (ctl_ok bs hts s.length) (by omega)
      obtain ⟨c, hc⟩ : ∃ x, ctl bs s s.length = x := ⟨_, rfl⟩
      rw [hc] at hcl hco
      have htc : List.take s.length (c.map iv) = c.map iv := List.take_of_length_le (by simp [hcl])
      clear hts
      refine G.rg tab_ok ok_lawPicked (hk := ?_)
      apply G.seq
      refine G.rg tab_ok ok_lawPicked (hk := ?_)
      apply G.seq
      refine G.rg tab_ok ok_lawPicked (hk := ?_)
      apply G.seq
      refine G.rg tab_ok ok_lawPicked (hk := ?_)
      apply G.seq
      refine G.rg tab_ok ok_lawPicked (hk := ?_)
      apply G.seq
      apply G.seq
      refine G.rg tab_ok ok_lawPicked (hk := ?_)
      apply G.block
      refine G.nm [3, 5, 6, 7, 8, 9, 42, 43, 44] (h := ?_)
      refine G.loopX (fun j : Nat => ⟨[(3, .sl 0 0 s.length), (5, .sl 1 0 a.length), (6, .sl 2 0 b.length), (7, .sl 3 0 (pk c a b j).1.length), (8, .int .i64 (pk c a b j).2.1), (9, .int .i64 (pk c a b j).2.2), (42, .sl 0 0 s.length), (43, .int .i64 s.length), (44, .int .i64 j)], [some (1, c.map iv), some (1, a.map iv), some (1, b.map iv), some (1, (pk c a b j).1.map iv)], 124⟩) (fun j => j ≤ s.length ∧ (∀ q < j, pkGood c a b q) ∧ (pk c a b j).2.1 ≤ a.length ∧ (pk c a b j).2.2 ≤ b.length) (fun j => s.length - j) (0) (⟨Nat.zero_le _, fun q h => absurd h (Nat.not_lt_zero q), Nat.zero_le _, Nat.zero_le _⟩) (by simp [pk]) ?_
      intro j hj J hJ
      obtain ⟨hj, hgood, hi0, hk0⟩ := hj
      have hw : IntKind.i64.wrap ((j : Int) + 1) = (j : Int) + 1 := wrap64 (by omega) (by omega)
      have hpc := pk_cnt c a b j
      have hwi : IntKind.i64.wrap (((pk c a b j).2.1 : Int) + 1) = ((pk c a b j).2.1 : Int) + 1 := wrap64 (by omega) (by omega)
      have hwk : IntKind.i64.wrap (((pk c a b j).2.2 : Int) + 1) = ((pk c a b j).2.2 : Int) + 1 := wrap64 (by omega) (by omega)
      clear hpc
      have hpl : (pk c a b j).1.length ≤ 12 := by rw [pk_len]; omega
      have htp : List.take (pk c a b j).1.length ((pk c a b j).1.map iv) = (pk c a b j).1.map iv := List.take_of_length_le (by simp)
      apply G.seq
      refine G.rg tab_ok ok_lawPicked (hk := ?_)
      apply G.seq
      refine G.iff (h1 := fun h4 => ?_) (h2 := fun h4 => ?_)
      · try simp only [decide_eq_true_eq, decide_eq_false_iff_not, Bool.and_eq_true, Bool.and_eq_false_imp, Bool.or_eq_true, Bool.or_eq_false_iff, Bool.not_eq_true', Bool.not_eq_false', bne_iff_ne, beq_iff_eq, bne_eq_false_iff_eq, beq_eq_false_iff_ne, ne_eq, Int.ofNat_lt, Int.not_lt, Int.not_le, Int.ofNat_le, Nat.not_lt, Nat.not_le, gt_iff_lt, ge_iff_le] at h4
        apply G.skip
        apply G.seq
        apply G.block
        apply G.seq
        have hjc : j < c.length := by omega
        refine G.rg tab_ok ok_lawPicked (hk := ?_)
        apply G.seq
        refine G.rg tab_ok ok_lawPicked (hk := ?_)
        refine G.iff (h1 := fun h5 => ?_) (h2 := fun h5 => ?_)
        · try simp only [decide_eq_true_eq, decide_eq_false_iff_not, Bool.and_eq_true, Bool.and_eq_false_imp, Bool.or_eq_true, Bool.or_eq_false_iff, Bool.not_eq_true', Bool.not_eq_false', bne_iff_ne, beq_iff_eq, bne_eq_false_iff_eq, beq_eq_false_iff_ne, ne_eq, Int.ofNat_lt, Int.not_lt, Int.not_le, Int.ofNat_le, Nat.not_lt, Nat.not_le, gt_iff_lt, ge_iff_le] at h5
          apply G.seq
          apply G.seq
          refine G.rg tab_ok ok_lawPicked (hk := ?_)
          refine G.fg [3, 5, 6, 7, 8, 9, 42, 43, 44, 53] (hk := ?_)
          refine G.iff (h1 := fun h6 => ?_) (h2 := fun h6 => ?_)
          · try simp only [decide_eq_true_eq, decide_eq_false_iff_not, Bool.and_eq_true, Bool.and_eq_false_imp, Bool.or_eq_true, Bool.or_eq_false_iff, Bool.not_eq_true', Bool.not_eq_false', bne_iff_ne, beq_iff_eq, bne_eq_false_iff_eq, beq_eq_false_iff_ne, ne_eq, Int.ofNat_lt, Int.not_lt, Int.not_le, Int.ofNat_le, Nat.not_lt, Nat.not_le, gt_iff_lt, ge_iff_le] at h6
            refine G.exit rfl ?_
            apply G.seq
            have hend : pkEnd c a b j := by
              first
              | exact .inl (by omega)
              | exact .inr (.inl ⟨by omega, h5, by omega⟩)
              | exact .inr (.inr ⟨by omega, h5, by omega⟩)
            have hR : ∃ u, runO 3 1 pickL [c, a, b] 800 = ([(pk c a b j).1], [u, ((pk c a b j).2.1 : Int), ((pk c a b j).2.2 : Int)], 2, true) := by
              obtain ⟨pc', rs', u, p, e⟩ := pick_run (c := c) (a := a) (b := b) (e := j) (by omega) hgood hend j 0 800 0 0 (by omega) (by omega)
              exact ⟨u, runO_eq (i := 3) (o := 1) (l := pickL) (fuel := 800) (by decide) rfl (by omega) (by omega) (by simp [hco, hao, hbo]) e⟩
            obtain ⟨u, hR⟩ := hR
            have hRun : AC Try.prog 59 [.agg [.int .i64 3, .int .i64 1, .row false 4 (pickL.map insv)], .row false 1 ([c, a, b].map ivL), .int .i64 800] (.tup [.row true 1 ([(pk c a b j).1].map ovL), .row true 1 ([u, ((pk c a b j).2.1 : Int), ((pk c a b j).2.2 : Int)].map iv), .int .i64 2, .bool true]) := by
              have hLW : LW [c, a, b] := fun r hr => by
                simp only [List.mem_cons, List.not_mem_nil, or_false] at hr
                rcases hr with hr | hr | hr
                · rw [hr, hcl]; omega
                · rw [hr]; exact hal5
                · rw [hr]; exact hbl5
              have h := implRunProcess_ac 3 1 pickL [c, a, b] 800 (by decide) (by show 3 < 5864062014805; omega) hLW
              rw [hR] at h
              exact h
            clear hR hgood hend
            have hivl := ivL_eq
            have hovl : ∀ x : List Int, ovL x = [A.row true 1 (x.map iv)] := fun _ => rfl
            have hW5 : (pk c a b j).1.length < 17592186044416 := by omega
            refine G.fg [3, 5, 6, 7, 8, 9] (hk := ?_)
            refine G.rgN 5 tab_ok ok_lawPicked (hk := ?_)
            refine G.cd [false, true, false] en_implRunProcess hRun (h := ?_)
            refine G.rgC tab_ok ok_lawPicked (hk := ?_)
            apply G.seq
            refine G.nm [7, 8, 9, 12, 13, 14, 15] (h := ?_)
            refine G.focus 1 0 0 rfl rfl rfl ?_
            simp only [withH]
            refine G.rgN 1 tab_ok ok_lawPicked (hk := ?_)
            refine G.rdN 12 tab_ok ok_lawPicked (hk := ?_)
            refine G.rdN 12 tab_ok ok_lawPicked (hk := ?_)
            refine G.rdC tab_ok ok_lawPicked (hk := ?_)
            refine G.fin tab_ok (hr := ?_)
            rfl
          · try simp only [decide_eq_true_eq, decide_eq_false_iff_not, Bool.and_eq_true, Bool.and_eq_false_imp, Bool.or_eq_true, Bool.or_eq_false_iff, Bool.not_eq_true', Bool.not_eq_false', bne_iff_ne, beq_iff_eq, bne_eq_false_iff_eq, beq_eq_false_iff_ne, ne_eq, Int.ofNat_lt, Int.not_lt, Int.not_le, Int.ofNat_le, Nat.not_lt, Nat.not_le, gt_iff_lt, ge_iff_le] at h6
            apply G.skip
            apply G.seq
            have hia : (pk c a b j).2.1 < a.length := by omega
            have hba1 : ((((pk c a b j).1.length + 1 : Nat) : Int)) ≤ 4611686018427387904 := by omega
            have hba2 : ((pk c a b j).1.length + 1) * 8 ≤ 70368744177664 := by omega
            refine G.rg tab_ok ok_lawPicked (hk := ?_)
            refine G.rg tab_ok ok_lawPicked (hk := ?_)
            apply G.blk
            refine G.rg tab_ok ok_lawPicked (hk := ?_)
            refine G.nm [3, 5, 6, 7, 8, 9, 42, 43, 44] (h := ?_)
            first
            | exact G.upto (hJ (j + 1) ⟨by omega, fun q hq => by
                by_cases e : q = j
                · rw [e]; exact ⟨by omega, fun _ => by omega, fun h => absurd h5 h⟩
                · exact hgood q (by omega), by rw [pk_zero h5]; show (pk c a b j).2.1 + 1 ≤ a.length; omega, by rw [pk_zero h5]; exact hk0⟩ (by omega)) (by rw [pk_zero h5]; simp [iv])
            | exact G.upto (hJ (j + 1) ⟨by omega, fun q hq => by
                by_cases e : q = j
                · rw [e]; exact ⟨by omega, fun h => absurd h h5, fun _ => by omega⟩
                · exact hgood q (by omega), by rw [pk_one h5]; exact hi0, by rw [pk_one h5]; show (pk c a b j).2.2 + 1 ≤ b.length; omega⟩ (by omega)) (by rw [pk_one h5]; simp [iv])
        · try simp only [decide_eq_true_eq, decide_eq_false_iff_not, Bool.and_eq_true, Bool.and_eq_false_imp, Bool.or_eq_true, Bool.or_eq_false_iff, Bool.not_eq_true', Bool.not_eq_false', bne_iff_ne, beq_iff_eq, bne_eq_false_iff_eq, beq_eq_false_iff_ne, ne_eq, Int.ofNat_lt, Int.not_lt, Int.not_le, Int.ofNat_le, Nat.not_lt, Nat.not_le, gt_iff_lt, ge_iff_le] at h5
          apply G.seq
          apply G.seq
          refine G.rg tab_ok ok_lawPicked (hk := ?_)
          refine G.fg [3, 5, 6, 7, 8, 9, 42, 43, 44, 66] (hk := ?_)
          refine G.iff (h1 := fun h7 => ?_) (h2 := fun h7 => ?_)
          · try simp only [decide_eq_true_eq, decide_eq_false_iff_not, Bool.and_eq_true, Bool.and_eq_false_imp, Bool.or_eq_true, Bool.or_eq_false_iff, Bool.not_eq_true', Bool.not_eq_false', bne_iff_ne, beq_iff_eq, bne_eq_false_iff_eq, beq_eq_false_iff_ne, ne_eq, Int.ofNat_lt, Int.not_lt, Int.not_le, Int.ofNat_le, Nat.not_lt, Nat.not_le, gt_iff_lt, ge_iff_le] at h7
            refine G.exit rfl ?_
            apply G.seq
            have hend : pkEnd c a b j := by
              first
              | exact .inl (by omega)
              | exact .inr (.inl ⟨by omega, h5, by omega⟩)
              | exact .inr (.inr ⟨by omega, h5, by omega⟩)
            have hR : ∃ u, runO 3 1 pickL [c, a, b] 800 = ([(pk c a b j).1], [u, ((pk c a b j).2.1 : Int), ((pk c a b j).2.2 : Int)], 2, true) := by
              obtain ⟨pc', rs', u, p, e⟩ := pick_run (c := c) (a := a) (b := b) (e := j) (by omega) hgood hend j 0 800 0 0 (by omega) (by omega)
              exact ⟨u, runO_eq (i := 3) (o := 1) (l := pickL) (fuel := 800) (by decide) rfl (by omega) (by omega) (by simp [hco, hao, hbo]) e⟩
            obtain ⟨u, hR⟩ := hR
            have hRun : AC Try.prog 59 [.agg [.int .i64 3, .int .i64 1, .row false 4 (pickL.map insv)], .row false 1 ([c, a, b].map ivL), .int .i64 800] (.tup [.row true 1 ([(pk c a b j).1].map ovL), .row true 1 ([u, ((pk c a b j).2.1 : Int), ((pk c a b j).2.2 : Int)].map iv), .int .i64 2, .bool true]) := by
              have hLW : LW [c, a, b] := fun r hr => by
                simp only [List.mem_cons, List.not_mem_nil, or_false] at hr
                rcases hr with hr | hr | hr
                · rw [hr, hcl]; omega
                · rw [hr]; exact hal5
                · rw [hr]; exact hbl5
              have h := implRunProcess_ac 3 1 pickL [c, a, b] 800 (by decide) (by show 3 < 5864062014805; omega) hLW
              rw [hR] at h
              exact h
            clear hR hgood hend
            have hivl := ivL_eq
            have hovl : ∀ x : List Int, ovL x = [A.row true 1 (x.map iv)] := fun _ => rfl
            have hW5 : (pk c a b j).1.length < 17592186044416 := by omega
            refine G.fg [3, 5, 6, 7, 8, 9] (hk := ?_)
            refine G.rgN 5 tab_ok ok_lawPicked (hk := ?_)
            refine G.cd [false, true, false] en_implRunProcess hRun (h := ?_)
            refine G.rgC tab_ok ok_lawPicked (hk := ?_)
            apply G.seq
            refine G.nm [7, 8, 9, 12, 13, 14, 15] (h := ?_)
            refine G.focus 1 0 0 rfl rfl rfl ?_
            simp only [withH]
            refine G.rgN 1 tab_ok ok_lawPicked (hk := ?_)
            refine G.rdN 12 tab_ok ok_lawPicked (hk := ?_)
            refine G.rdN 12 tab_ok ok_lawPicked (hk := ?_)
            refine G.rdC tab_ok ok_lawPicked (hk := ?_)
            refine G.fin tab_ok (hr := ?_)
            rfl
          · try simp only [decide_eq_true_eq, decide_eq_false_iff_not, Bool.and_eq_true, Bool.and_eq_false_imp, Bool.or_eq_true, Bool.or_eq_false_iff, Bool.not_eq_true', Bool.not_eq_false', bne_iff_ne, beq_iff_eq, bne_eq_false_iff_eq, beq_eq_false_iff_ne, ne_eq, Int.ofNat_lt, Int.not_lt, Int.not_le, Int.ofNat_le, Nat.not_lt, Nat.not_le, gt_iff_lt, ge_iff_le] at h7
            apply G.skip
            apply G.seq
            have hkb : (pk c a b j).2.2 < b.length := by omega
            have hbb1 : ((((pk c a b j).1.length + 1 : Nat) : Int)) ≤ 4611686018427387904 := by omega
            have hbb2 : ((pk c a b j).1.length + 1) * 8 ≤ 70368744177664 := by omega
            refine G.rg tab_ok ok_lawPicked (hk := ?_)
            refine G.rg tab_ok ok_lawPicked (hk := ?_)
            apply G.blk
            refine G.rg tab_ok ok_lawPicked (hk := ?_)
            refine G.nm [3, 5, 6, 7, 8, 9, 42, 43, 44] (h := ?_)
            first
            | exact G.upto (hJ (j + 1) ⟨by omega, fun q hq => by
                by_cases e : q = j
                · rw [e]; exact ⟨by omega, fun _ => by omega, fun h => absurd h5 h⟩
                · exact hgood q (by omega), by rw [pk_zero h5]; show (pk c a b j).2.1 + 1 ≤ a.length; omega, by rw [pk_zero h5]; exact hk0⟩ (by omega)) (by rw [pk_zero h5]; simp [iv])
            | exact G.upto (hJ (j + 1) ⟨by omega, fun q hq => by
                by_cases e : q = j
                · rw [e]; exact ⟨by omega, fun h => absurd h h5, fun _ => by omega⟩
                · exact hgood q (by omega), by rw [pk_one h5]; exact hi0, by rw [pk_one h5]; show (pk c a b j).2.2 + 1 ≤ b.length; omega⟩ (by omega)) (by rw [pk_one h5]; simp [iv])
      · try simp only [decide_eq_true_eq, decide_eq_false_iff_not, Bool.and_eq_true, Bool.and_eq_false_imp, Bool.or_eq_true, Bool.or_eq_false_iff, Bool.not_eq_true', Bool.not_eq_false', bne_iff_ne, beq_iff_eq, bne_eq_false_iff_eq, beq_eq_false_iff_ne, ne_eq, Int.ofNat_lt, Int.not_lt, Int.not_le, Int.ofNat_le, Nat.not_lt, Nat.not_le, gt_iff_lt, ge_iff_le] at h4
        refine G.exit rfl ?_
        apply G.seq
        have hend : pkEnd c a b j := by
          first
          | exact .inl (by omega)
          | exact .inr (.inl ⟨by omega, h5, by omega⟩)
          | exact .inr (.inr ⟨by omega, h5, by omega⟩)
        have hR : ∃ u, runO 3 1 pickL [c, a, b] 800 = ([(pk c a b j).1], [u, ((pk c a b j).2.1 : Int), ((pk c a b j).2.2 : Int)], 2, true) := by
          obtain ⟨pc', rs', u, p, e⟩ := pick_run (c := c) (a := a) (b := b) (e := j) (by omega) hgood hend j 0 800 0 0 (by omega) (by omega)
          exact ⟨u, runO_eq (i := 3) (o := 1) (l := pickL) (fuel := 800) (by decide) rfl (by omega) (by omega) (by simp [hco, hao, hbo]) e⟩
        obtain ⟨u, hR⟩ := hR
        have hRun : AC Try.prog 59 [.agg [.int .i64 3, .int .i64 1, .row false 4 (pickL.map insv)], .row false 1 ([c, a, b].map ivL), .int .i64 800] (.tup [.row true 1 ([(pk c a b j).1].map ovL), .row true 1 ([u, ((pk c a b j).2.1 : Int), ((pk c a b j).2.2 : Int)].map iv), .int .i64 2, .bool true]) := by
          have hLW : LW [c, a, b] := fun r hr => by
            simp only [List.mem_cons, List.not_mem_nil, or_false] at hr
            rcases hr with hr | hr | hr
            · rw [hr, hcl]; omega
            · rw [hr]; exact hal5
            · rw [hr]; exact hbl5
          have h := implRunProcess_ac 3 1 pickL [c, a, b] 800 (by decide) (by show 3 < 5864062014805; omega) hLW
          rw [hR] at h
          exact h
        clear hR hgood hend
        have hivl := ivL_eq
        have hovl : ∀ x : List Int, ovL x = [A.row true 1 (x.map iv)] := fun _ => rfl
        have hW5 : (pk c a b j).1.length < 17592186044416 := by omega
        refine G.fg [3, 5, 6, 7, 8, 9] (hk := ?_)
        refine G.rgN 5 tab_ok ok_lawPicked (hk := ?_)
        refine G.cd [false, true, false] en_implRunProcess hRun (h := ?_)
        refine G.rgC tab_ok ok_lawPicked (hk := ?_)
        apply G.seq
        refine G.nm [7, 8, 9, 12, 13, 14, 15] (h := ?_)
        refine G.focus 1 0 0 rfl rfl rfl ?_
        simp only [withH]
        refine G.rgN 1 tab_ok ok_lawPicked (hk := ?_)
        refine G.rdN 12 tab_ok ok_lawPicked (hk := ?_)
        refine G.rdN 12 tab_ok ok_lawPicked (hk := ?_)
        refine G.rdC tab_ok ok_lawPicked (hk := ?_)
        refine G.fin tab_ok (hr := ?_)
        rfl
end Go.Proofs.Yticgaflgbljhlaa.Ab
