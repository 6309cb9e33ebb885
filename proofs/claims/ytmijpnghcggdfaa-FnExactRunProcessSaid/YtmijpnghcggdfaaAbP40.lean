/- Walks of functions of the program: what each answers, for all arguments that meet its conditions. -/
import Derived.Test.YtmijpnghcggdfaaAbNst
import Derived.Test.YtmijpnghcggdfaaAbP31
namespace Go.Proofs.Ytmijpnghcggdfaa.Ab
open Go
set_option linter.unusedVariables false
set_option linter.unusedSimpArgs false
set_option maxHeartbeats 4000000

theorem ok_l2Run : Kn.ok Try.prog (kof [(86, q_l2Want), (88, q_l2Step)]) := kof_cons k_l2Want (kof_cons k_l2Step ((kof_nil _)))
theorem l2Run_ac (i : Int) (o : Int) (l : List I4) (ins : List (List Int)) (fuel : Int) (hc1 : progOk i o l = true) (hc2 : IW i ins) (hc3 : 0 ≤ fuel) (hc4 : fuel ≤ 3000) : AC Try.prog 91 [.agg [.int .i64 i, .int .i64 o, .row false 4 (l.map insv)], .row false 1 (ins.map ivL), .int .i64 fuel] (.tup [.row true 1 ((goP l ins fuel.toNat (ps0 i o)).1.outs.map ovL), .row true 1 ((goP l ins fuel.toNat (ps0 i o)).1.used.map iv), .int .i64 (goP l ins fuel.toNat (ps0 i o)).2.1, .int .i64 (goP l ins fuel.toNat (ps0 i o)).2.2]) := by
  have e_l2Want := e_l2Want
  have e_l2Step := e_l2Step
  have hpo := hc1
  simp only [progOk, inR, Bool.and_eq_true, decide_eq_true_eq] at hpo
  obtain ⟨⟨⟨hi0, ho0⟩, hl0⟩, _⟩ := hpo
  have hl24 : l.length ≤ 24 := by omega
  have hivl := ivL_eq
  have hpov := pureLL_ovL
  have hpiv := pureLL_ivL
  have hil := hc2.il
  generalize hR : goP l ins fuel.toNat (ps0 i o) = R
  have hb1 : i ≤ 4611686018427387904 := by omega
  have hb2 : 8 * i ≤ 140737488355328 := by omega
  refine AC.of tab_ok Try.func91 rfl (Nat.le_of_ble_eq_true rfl) fun w0 S0 => ?_
  change G _ _ ⟨[(0, .agg [.int .i64 i, .int .i64 o, .row false 4 (l.map insv)]), (1, .row false 1 (ins.map ivL)), (2, .int .i64 fuel)], [], 120⟩
  apply G.seq
  refine G.rg tab_ok ok_l2Run (hk := ?_)
  apply G.seq
  refine G.rg tab_ok ok_l2Run (hk := ?_)
  apply G.seq
  refine G.rg tab_ok ok_l2Run (hk := ?_)
  apply G.seq
  apply G.seq
  refine G.rg tab_ok ok_l2Run (hk := ?_)
  apply G.block
  refine G.nm [1, 2, 3, 10, 11, 12] (h := ?_)
  refine G.loopX (fun j : Nat => ⟨[(1, .row false 1 (ins.map ivL)), (2, .int .i64 fuel), (3, .ptr 0 0 0), (10, .ptr 1 0 0), (11, .sl 2 0 (nilsL j).length), (12, .int .i64 j)], [some (3, [[.int .i64 i, .int .i64 o, .row false 4 (l.map insv)]]), some (2, [[.int .i64 0, .sl 3 0 4]]), some (1, (nilsL j).map ovL), some (1, [[.int .i64 0], [.int .i64 0], [.int .i64 0], [.int .i64 0]])], 120⟩) (fun j => j ≤ o.toNat) (fun j => o.toNat - j) (0) (Nat.zero_le _) (by simp [nilsL]) ?_
  intro j hj J hJ
  have hw : IntKind.i64.wrap ((j : Int) + 1) = (j : Int) + 1 := wrap64 (by omega) (by omega)
  have hnl : (nilsL j).length ≤ 3 := by rw [nilsL_len]; omega
  have hbo1 : (((nilsL j).length + 1 : Nat) : Int) ≤ 4611686018427387904 := by omega
  have hbo2 : ((nilsL j).length + 1) * 24 ≤ 70368744177664 := by omega
  apply G.seq
  apply G.seq
  refine G.rg tab_ok ok_l2Run (hk := ?_)
  refine G.iff (h1 := fun h1 => ?_) (h2 := fun h1 => ?_)
  · try simp only [decide_eq_true_eq, decide_eq_false_iff_not, Bool.and_eq_true, Bool.and_eq_false_imp, Bool.or_eq_true, Bool.or_eq_false_iff, Bool.not_eq_true', Bool.not_eq_false', bne_iff_ne, beq_iff_eq, bne_eq_false_iff_eq, beq_eq_false_iff_ne, ne_eq, Int.ofNat_lt, Int.not_lt, Int.not_le, Int.ofNat_le, Nat.not_lt, Nat.not_le, gt_iff_lt, ge_iff_le] at h1
    apply G.skip
    apply G.seq
    apply G.block
    refine G.rg tab_ok ok_l2Run (hk := ?_)
    refine G.lastO 6 4 (r := []) rfl rfl (by decide) rfl ?_
    apply G.blk
    refine G.rg tab_ok ok_l2Run (hk := ?_)
    refine G.nm [1, 2, 3, 10, 11, 12] (h := ?_)
    have hsn : nilsL j ++ [[]] = nilsL (j + 1) := by simp [nilsL, List.replicate_succ']
    have hsl : (nilsL j).length + 1 = (nilsL (j + 1)).length := by rw [nilsL_len, nilsL_len]
    exact G.upto (hJ (j + 1) (by omega) (by omega)) (by rw [hsn, hsl]; simp)
  · try simp only [decide_eq_true_eq, decide_eq_false_iff_not, Bool.and_eq_true, Bool.and_eq_false_imp, Bool.or_eq_true, Bool.or_eq_false_iff, Bool.not_eq_true', Bool.not_eq_false', bne_iff_ne, beq_iff_eq, bne_eq_false_iff_eq, beq_eq_false_iff_ne, ne_eq, Int.ofNat_lt, Int.not_lt, Int.not_le, Int.ofNat_le, Nat.not_lt, Nat.not_le, gt_iff_lt, ge_iff_le] at h1
    refine G.exit rfl ?_
    apply G.seq
    refine G.rg tab_ok ok_l2Run (hk := ?_)
    apply G.block
    obtain rfl : j = o.toNat := by omega
    have hff : ((fuel.toNat : Nat) : Int) = fuel := by omega
    refine G.nm [1, 2, 3, 10, 11, 13] (h := ?_)
    refine G.loopX (fun x : PS × Nat => ⟨[(1, .row false 1 (ins.map ivL)), (2, .int .i64 (x.2 : Nat)), (3, .ptr 0 0 0), (10, .ptr 1 0 0), (11, .sl 2 0 x.1.outs.length), (13, .sl 3 0 x.1.used.length)], [some (3, [[.int .i64 i, .int .i64 o, .row false 4 (l.map insv)]]), some (2, [[.int .i64 x.1.pc, .sl 4 0 x.1.rs.length]]), some (1, x.1.outs.map ovL), some (1, x.1.used.map iv), some (1, x.1.rs.map iv)], 120⟩) (fun x => PW i o l ins x.1 ∧ goP l ins x.2 x.1 = R ∧ x.2 ≤ 3000) (fun x => x.2) ((ps0 i o, fuel.toNat)) (⟨PW.init hc1 hc2, hR, by simp only; omega⟩) (by simp [ps0, nilsL, iv, hff]) ?_
    intro x hx J2 hJ2
    obtain ⟨s, n⟩ := x
    simp only at hx ⊢
    obtain ⟨hw, hg, hn⟩ := hx
    obtain ⟨hpc0, hpc1⟩ := hw.pc0
    have hul := hw.ul
    have hol := hw.ol
    obtain ⟨p, hp⟩ : ∃ p, (wantK l s.pc).2 = p := ⟨_, rfl⟩
    have hfou : ∀ x : List (List Int), List.take x.length (List.map ovL x) = List.map ovL x := fun x => List.take_of_length_le (by simp)
    have hcase : (wantK l s.pc).1 = 0 ∨ (wantK l s.pc).1 = 1 ∨ ((wantK l s.pc).1 = 2 ∧ s.used.getD p.toNat default = ((ins.getD p.toNat default).length : Int)) ∨ ((wantK l s.pc).1 = 2 ∧ ¬ s.used.getD p.toNat default = ((ins.getD p.toNat default).length : Int)) ∨
        ((wantK l s.pc).1 = 3 ∧ (s.outs.getD p.toNat default).length = 400) ∨ ((wantK l s.pc).1 = 3 ∧ ¬ (s.outs.getD p.toNat default).length = 400) := by
      rcases wantK_cases l s.pc with h | h | h | h
      · exact .inl h
      · exact .inr (.inl h)
      · by_cases e : s.used.getD p.toNat default = ((ins.getD p.toNat default).length : Int)
        · exact .inr (.inr (.inl ⟨h, e⟩))
        · exact .inr (.inr (.inr (.inl ⟨h, e⟩)))
      · by_cases e : (s.outs.getD p.toNat default).length = 400
        · exact .inr (.inr (.inr (.inr (.inl ⟨h, e⟩))))
        · exact .inr (.inr (.inr (.inr (.inr ⟨h, e⟩))))
    rcases hcase with c0 | c0 | ⟨c0, c1⟩ | ⟨c0, c1⟩ | ⟨c0, c1⟩ | ⟨c0, c1⟩
    · skip
      have hst : stopP l ins s = true := by simp [stopP, wP, c0]
      
      apply G.block
      apply G.seq
      refine G.rg tab_ok ok_l2Run (hk := ?_)
      apply G.seq
      refine G.rg tab_ok ok_l2Run (hk := ?_)
      apply G.seq
      apply G.seq
      refine G.rg tab_ok ok_l2Run (hk := ?_)
      apply G.block
      apply G.seq
      refine G.rg tab_ok ok_l2Run (hk := ?_)
      refine G.iffT (h1 := ?_)
      apply G.seq
      refine G.rg tab_ok ok_l2Run (hk := ?_)
      refine G.fin tab_ok (hr := ?_)
      simp only [hfou, oneOrTup]
      rw [← hg, goP_stop hst]
      simp only [wP, c0, hp]
    · skip
      have hst : stopP l ins s = false := by simp [stopP, wP, c0]
      have hn0 : ¬ (wP l s).1 = 0 := by show ¬ (wantK l s.pc).1 = 0; rw [c0]; decide
      obtain ⟨hreg, hop⟩ := hw.reg hc1 hn0
      have hlt := hw.lt hn0
      have hreg2 : RegOk (l.getD s.pc.toNat default) s.rs := hreg
      
      apply G.block
      apply G.seq
      refine G.rg tab_ok ok_l2Run (hk := ?_)
      apply G.seq
      refine G.rg tab_ok ok_l2Run (hk := ?_)
      apply G.seq
      apply G.seq
      refine G.rg tab_ok ok_l2Run (hk := ?_)
      apply G.block
      apply G.seq
      refine G.rg tab_ok ok_l2Run (hk := ?_)
      refine G.iffF (h2 := ?_)
      apply G.seq
      refine G.rg tab_ok ok_l2Run (hk := ?_)
      refine G.iffF (h2 := ?_)
      apply G.seq
      refine G.rg tab_ok ok_l2Run (hk := ?_)
      refine G.iffF (h2 := ?_)
      apply G.skip
      apply G.blk
      apply G.seq
      apply G.seq
      refine G.rg tab_ok ok_l2Run (hk := ?_)
      refine G.fg [1, 2, 3, 10, 11, 13, 14, 15, 16, 87] (hk := ?_)
      refine G.iff (h1 := fun h6 => ?_) (h2 := fun h6 => ?_)
      · try simp only [decide_eq_true_eq, decide_eq_false_iff_not, Bool.and_eq_true, Bool.and_eq_false_imp, Bool.or_eq_true, Bool.or_eq_false_iff, Bool.not_eq_true', Bool.not_eq_false', bne_iff_ne, beq_iff_eq, bne_eq_false_iff_eq, beq_eq_false_iff_ne, ne_eq, Int.ofNat_lt, Int.not_lt, Int.not_le, Int.ofNat_le, Nat.not_lt, Nat.not_le, gt_iff_lt, ge_iff_le] at h6
        apply G.seq
        refine G.rg tab_ok ok_l2Run (hk := ?_)
        refine G.fin tab_ok (hr := ?_)
        obtain rfl : n = 0 := by omega
        simp only [hfou, oneOrTup]
        rw [← hg, goP_zero hst]
      · try simp only [decide_eq_true_eq, decide_eq_false_iff_not, Bool.and_eq_true, Bool.and_eq_false_imp, Bool.or_eq_true, Bool.or_eq_false_iff, Bool.not_eq_true', Bool.not_eq_false', bne_iff_ne, beq_iff_eq, bne_eq_false_iff_eq, beq_eq_false_iff_ne, ne_eq, Int.ofNat_lt, Int.not_lt, Int.not_le, Int.ofNat_le, Nat.not_lt, Nat.not_le, gt_iff_lt, ge_iff_le] at h6
        apply G.skip
        apply G.seq
        have hn0 : n ≠ 0 := by omega
        have hn1 : ((n - 1 : Nat) : Int) = (n : Int) - 1 := by omega
        have hwn : IntKind.i64.wrap ((n : Int) - 1) = (n : Int) - 1 := wrap64 (by omega) (by omega)
        refine G.rg tab_ok ok_l2Run (hk := ?_)
        apply G.seq
        refine G.rg tab_ok ok_l2Run (hk := ?_)
        apply G.seq
        refine G.rg tab_ok ok_l2Run (hk := ?_)
        apply G.seq
        apply G.seq
        refine G.rg tab_ok ok_l2Run (hk := ?_)
        refine G.iffF (h2 := ?_)
        apply G.skip
        apply G.seq
        refine G.rg tab_ok ok_l2Run (hk := ?_)
        refine G.iffF (h2 := ?_)
        apply G.skip
        apply G.blk
        refine G.nm [1, 2, 3, 10, 11, 13] (h := ?_)
        exact G.upto (hJ2 (nextP l ins s, n - 1) ⟨hw.next hc1 hc2 hst, goP_pred hst (by omega) hg, by simp only; omega⟩ (by simp only; omega)) (by simp [nextP, wP, xP, tokP, c0, hp, hn1])
    · skip
      have hrd := hw.read hc1 (show (wP l s).1 = 2 from c0)
      simp only [wP, hp] at hrd
      have hq0 : 0 ≤ p := hrd.1
      have hq1 : p < (s.used.length : Int) := by omega
      have hq2 : p.toNat < s.used.length := by omega
      have hq3 : p < (ins.length : Int) := by omega
      have hq4 : p.toNat < ins.length := by omega
      have hub := hw.ub p.toNat hq2
      have hbt : (s.used.getD p.toNat default == (((ins.getD p.toNat default).length : Nat) : Int)) = true := by rw [beq_iff_eq]; exact c1
      have hst : stopP l ins s = true := by rw [stopP_two c0 hp]; exact hbt
      
      apply G.block
      apply G.seq
      refine G.rg tab_ok ok_l2Run (hk := ?_)
      apply G.seq
      refine G.rg tab_ok ok_l2Run (hk := ?_)
      apply G.seq
      apply G.seq
      refine G.rg tab_ok ok_l2Run (hk := ?_)
      apply G.block
      apply G.seq
      refine G.rg tab_ok ok_l2Run (hk := ?_)
      refine G.iffF (h2 := ?_)
      apply G.seq
      refine G.rg tab_ok ok_l2Run (hk := ?_)
      refine G.iffT (h1 := ?_)
      apply G.seq
      apply G.seq
      refine G.dr mixed tab_ok ok_l2Run [0, 1, 2, 3, 4, 5, 6, 7, 8, 9] (hk := ?_)
      refine G.iffT (h1 := ?_)
      apply G.seq
      refine G.rg tab_ok ok_l2Run (hk := ?_)
      refine G.fin tab_ok (hr := ?_)
      simp only [hfou, oneOrTup]
      rw [← hg, goP_stop hst]
      simp only [wP, c0, hp]
    · skip
      have hrd := hw.read hc1 (show (wP l s).1 = 2 from c0)
      simp only [wP, hp] at hrd
      have hq0 : 0 ≤ p := hrd.1
      have hq1 : p < (s.used.length : Int) := by omega
      have hq2 : p.toNat < s.used.length := by omega
      have hq3 : p < (ins.length : Int) := by omega
      have hq4 : p.toNat < ins.length := by omega
      have hub := hw.ub p.toNat hq2
      have hbt : (s.used.getD p.toNat default == (((ins.getD p.toNat default).length : Nat) : Int)) = false := by rw [beq_eq_false_iff_ne]; exact c1
      have hst : stopP l ins s = false := by rw [stopP_two c0 hp]; exact hbt
      have hn0 : ¬ (wP l s).1 = 0 := by show ¬ (wantK l s.pc).1 = 0; rw [c0]; decide
      obtain ⟨hreg, hop⟩ := hw.reg hc1 hn0
      have hlt := hw.lt hn0
      have hreg2 : RegOk (l.getD s.pc.toNat default) s.rs := hreg
      have hu0 : 0 ≤ s.used.getD p.toNat default := hub.1
      have hu1 : s.used.getD p.toNat default < ((ins.getD p.toNat default).length : Int) := by have := hub.2; omega
      have hu2 : (s.used.getD p.toNat default).toNat < (ins.getD p.toNat default).length := by omega
      have hsub : (ins.getD p.toNat default).length ≤ 400 := strLen (hc2.it _ (getD_mem hq4))
      have hset : ∀ v : Int, (List.map iv s.used).set p.toNat [.int .i64 v] = List.map iv (s.used.set p.toNat v) := fun v => by rw [List.map_set]; rfl
      have hugt : (List.map iv s.used)[p.toNat]? = some [.int .i64 (s.used.getD p.toNat default)] := by simp [hq2, iv]
      have hwu : IntKind.i64.wrap (s.used.getD p.toNat default + 1) = s.used.getD p.toNat default + 1 := wrap64 (by omega) (by omega)
      
      apply G.block
      apply G.seq
      refine G.rg tab_ok ok_l2Run (hk := ?_)
      apply G.seq
      refine G.rg tab_ok ok_l2Run (hk := ?_)
      apply G.seq
      apply G.seq
      refine G.rg tab_ok ok_l2Run (hk := ?_)
      apply G.block
      apply G.seq
      refine G.rg tab_ok ok_l2Run (hk := ?_)
      refine G.iffF (h2 := ?_)
      apply G.seq
      refine G.rg tab_ok ok_l2Run (hk := ?_)
      refine G.iffT (h1 := ?_)
      apply G.seq
      apply G.seq
      refine G.dr mixed tab_ok ok_l2Run [0, 1, 2, 3, 4, 5, 6, 7, 8, 9] (hk := ?_)
      refine G.iffF (h2 := ?_)
      apply G.skip
      refine G.dr mixed tab_ok ok_l2Run [0, 1, 2, 3, 4, 5, 6, 7, 8, 9, 10] (hk := ?_)
      apply G.blk
      apply G.seq
      apply G.seq
      refine G.rg tab_ok ok_l2Run (hk := ?_)
      refine G.fg [1, 2, 3, 10, 11, 13, 14, 15, 16, 87] (hk := ?_)
      refine G.iff (h1 := fun h15 => ?_) (h2 := fun h15 => ?_)
      · try simp only [decide_eq_true_eq, decide_eq_false_iff_not, Bool.and_eq_true, Bool.and_eq_false_imp, Bool.or_eq_true, Bool.or_eq_false_iff, Bool.not_eq_true', Bool.not_eq_false', bne_iff_ne, beq_iff_eq, bne_eq_false_iff_eq, beq_eq_false_iff_ne, ne_eq, Int.ofNat_lt, Int.not_lt, Int.not_le, Int.ofNat_le, Nat.not_lt, Nat.not_le, gt_iff_lt, ge_iff_le] at h15
        apply G.seq
        refine G.rg tab_ok ok_l2Run (hk := ?_)
        refine G.fin tab_ok (hr := ?_)
        obtain rfl : n = 0 := by omega
        simp only [hfou, oneOrTup]
        rw [← hg, goP_zero hst]
      · try simp only [decide_eq_true_eq, decide_eq_false_iff_not, Bool.and_eq_true, Bool.and_eq_false_imp, Bool.or_eq_true, Bool.or_eq_false_iff, Bool.not_eq_true', Bool.not_eq_false', bne_iff_ne, beq_iff_eq, bne_eq_false_iff_eq, beq_eq_false_iff_ne, ne_eq, Int.ofNat_lt, Int.not_lt, Int.not_le, Int.ofNat_le, Nat.not_lt, Nat.not_le, gt_iff_lt, ge_iff_le] at h15
        apply G.skip
        apply G.seq
        have hn0 : n ≠ 0 := by omega
        have hn1 : ((n - 1 : Nat) : Int) = (n : Int) - 1 := by omega
        have hwn : IntKind.i64.wrap ((n : Int) - 1) = (n : Int) - 1 := wrap64 (by omega) (by omega)
        refine G.rg tab_ok ok_l2Run (hk := ?_)
        apply G.seq
        refine G.rg tab_ok ok_l2Run (hk := ?_)
        apply G.seq
        refine G.rg tab_ok ok_l2Run (hk := ?_)
        apply G.seq
        apply G.seq
        refine G.rg tab_ok ok_l2Run (hk := ?_)
        refine G.iffT (h1 := ?_)
        refine G.rg tab_ok ok_l2Run (hk := ?_)
        apply G.seq
        refine G.rg tab_ok ok_l2Run (hk := ?_)
        refine G.iffF (h2 := ?_)
        apply G.skip
        apply G.blk
        refine G.nm [1, 2, 3, 10, 11, 13] (h := ?_)
        exact G.upto (hJ2 (nextP l ins s, n - 1) ⟨hw.next hc1 hc2 hst, goP_pred hst (by omega) hg, by simp only; omega⟩ (by simp only; omega)) (by simp [nextP, wP, xP, tokP, c0, hp, hn1])
    · skip
      have hrd := hw.write hc1 (show (wP l s).1 = 3 from c0)
      simp only [wP, hp] at hrd
      have hq0 : 0 ≤ p := hrd.1
      have hq1 : p < (s.outs.length : Int) := by omega
      have hq2 : p.toNat < s.outs.length := by omega
      have hob := hw.ob _ (getD_mem hq2)
      have hget : ∀ a : List A, ((s.outs.map ovL).set p.toNat a)[p.toNat]? = some a := fun a => List.getElem?_set_self (by simpa using hq2)
      have hrdc : ∀ a : A, rdCells ((s.outs.map ovL).set p.toNat [a]) p.toNat 0 1 = some [a] := fun a => by simp [rdCells, hget]
      have hss : ∀ a b : List A, ((s.outs.map ovL).set p.toNat a).set p.toNat b = (s.outs.map ovL).set p.toNat b := fun a b => List.set_set ..
      have hsame : s.outs.set p.toNat (s.outs.getD p.toNat default) = s.outs := by
        rw [List.getD_eq_getElem?_getD, List.getElem?_eq_getElem hq2]
        exact List.set_getElem_self hq2
      have hbt : ((((s.outs.getD p.toNat default).length : Nat) : Int) == 400) = true := by rw [beq_iff_eq]; omega
      have hst : stopP l ins s = true := by rw [stopP_three c0 hp]; exact hbt
      
      apply G.block
      apply G.seq
      refine G.rg tab_ok ok_l2Run (hk := ?_)
      apply G.seq
      refine G.rg tab_ok ok_l2Run (hk := ?_)
      apply G.seq
      apply G.seq
      refine G.rg tab_ok ok_l2Run (hk := ?_)
      apply G.block
      apply G.seq
      refine G.rg tab_ok ok_l2Run (hk := ?_)
      refine G.iffF (h2 := ?_)
      apply G.seq
      refine G.rg tab_ok ok_l2Run (hk := ?_)
      refine G.iffF (h2 := ?_)
      apply G.seq
      refine G.rg tab_ok ok_l2Run (hk := ?_)
      refine G.iffT (h1 := ?_)
      apply G.seq
      refine G.focusO 2 p.toNat rfl hq2 ?_
      refine G.rg tab_ok ok_l2Run (hk := ?_)
      refine G.iffT (h1 := ?_)
      apply G.seq
      refine G.unfocusO 2 p.toNat 5 rfl rfl (by decide) c1.symm hq2 ?_
      rw [hsame]
      refine G.rg tab_ok ok_l2Run (hk := ?_)
      refine G.fin tab_ok (hr := ?_)
      simp only [hfou, oneOrTup]
      rw [← hg, goP_stop hst]
      simp only [wP, c0, hp]
    · skip
      have hrd := hw.write hc1 (show (wP l s).1 = 3 from c0)
      simp only [wP, hp] at hrd
      have hq0 : 0 ≤ p := hrd.1
      have hq1 : p < (s.outs.length : Int) := by omega
      have hq2 : p.toNat < s.outs.length := by omega
      have hob := hw.ob _ (getD_mem hq2)
      have hget : ∀ a : List A, ((s.outs.map ovL).set p.toNat a)[p.toNat]? = some a := fun a => List.getElem?_set_self (by simpa using hq2)
      have hrdc : ∀ a : A, rdCells ((s.outs.map ovL).set p.toNat [a]) p.toNat 0 1 = some [a] := fun a => by simp [rdCells, hget]
      have hss : ∀ a b : List A, ((s.outs.map ovL).set p.toNat a).set p.toNat b = (s.outs.map ovL).set p.toNat b := fun a b => List.set_set ..
      have hsame : s.outs.set p.toNat (s.outs.getD p.toNat default) = s.outs := by
        rw [List.getD_eq_getElem?_getD, List.getElem?_eq_getElem hq2]
        exact List.set_getElem_self hq2
      have hbt : ((((s.outs.getD p.toNat default).length : Nat) : Int) == 400) = false := by rw [beq_eq_false_iff_ne]; omega
      have hst : stopP l ins s = false := by rw [stopP_three c0 hp]; exact hbt
      have hn0 : ¬ (wP l s).1 = 0 := by show ¬ (wantK l s.pc).1 = 0; rw [c0]; decide
      obtain ⟨hreg, hop⟩ := hw.reg hc1 hn0
      have hlt := hw.lt hn0
      have hreg2 : RegOk (l.getD s.pc.toNat default) s.rs := hreg
      have happ : ∀ v : Int, List.map iv (s.outs.getD p.toNat default) ++ [[.int .i64 v]] = List.map iv (s.outs.getD p.toNat default ++ [v]) := fun v => by simp [iv]
      have hbo1 : (((s.outs.getD p.toNat default).length + 1 : Nat) : Int) ≤ 4611686018427387904 := by omega
      have hbo2 : ((s.outs.getD p.toNat default).length + 1) * 8 ≤ 70368744177664 := by omega
      
      apply G.block
      apply G.seq
      refine G.rg tab_ok ok_l2Run (hk := ?_)
      apply G.seq
      refine G.rg tab_ok ok_l2Run (hk := ?_)
      apply G.seq
      apply G.seq
      refine G.rg tab_ok ok_l2Run (hk := ?_)
      apply G.block
      apply G.seq
      refine G.rg tab_ok ok_l2Run (hk := ?_)
      refine G.iffF (h2 := ?_)
      apply G.seq
      refine G.rg tab_ok ok_l2Run (hk := ?_)
      refine G.iffF (h2 := ?_)
      apply G.seq
      refine G.rg tab_ok ok_l2Run (hk := ?_)
      refine G.iffT (h1 := ?_)
      apply G.seq
      refine G.focusO 2 p.toNat rfl hq2 ?_
      refine G.rg tab_ok ok_l2Run (hk := ?_)
      refine G.iffF (h2 := ?_)
      apply G.skip
      apply G.blk
      apply G.seq
      apply G.seq
      refine G.rg tab_ok ok_l2Run (hk := ?_)
      refine G.fg [1, 2, 3, 10, 11, 13, 14, 15, 16, 87] (hk := ?_)
      refine G.iff (h1 := fun h26 => ?_) (h2 := fun h26 => ?_)
      · try simp only [decide_eq_true_eq, decide_eq_false_iff_not, Bool.and_eq_true, Bool.and_eq_false_imp, Bool.or_eq_true, Bool.or_eq_false_iff, Bool.not_eq_true', Bool.not_eq_false', bne_iff_ne, beq_iff_eq, bne_eq_false_iff_eq, beq_eq_false_iff_ne, ne_eq, Int.ofNat_lt, Int.not_lt, Int.not_le, Int.ofNat_le, Nat.not_lt, Nat.not_le, gt_iff_lt, ge_iff_le] at h26
        apply G.seq
        refine G.unfocusO 2 p.toNat 5 rfl rfl (by decide) rfl hq2 ?_
        rw [hsame]
        refine G.rg tab_ok ok_l2Run (hk := ?_)
        refine G.fin tab_ok (hr := ?_)
        obtain rfl : n = 0 := by omega
        simp only [hfou, oneOrTup]
        rw [← hg, goP_zero hst]
      · try simp only [decide_eq_true_eq, decide_eq_false_iff_not, Bool.and_eq_true, Bool.and_eq_false_imp, Bool.or_eq_true, Bool.or_eq_false_iff, Bool.not_eq_true', Bool.not_eq_false', bne_iff_ne, beq_iff_eq, bne_eq_false_iff_eq, beq_eq_false_iff_ne, ne_eq, Int.ofNat_lt, Int.not_lt, Int.not_le, Int.ofNat_le, Nat.not_lt, Nat.not_le, gt_iff_lt, ge_iff_le] at h26
        apply G.skip
        apply G.seq
        have hn0 : n ≠ 0 := by omega
        have hn1 : ((n - 1 : Nat) : Int) = (n : Int) - 1 := by omega
        have hwn : IntKind.i64.wrap ((n : Int) - 1) = (n : Int) - 1 := wrap64 (by omega) (by omega)
        refine G.rg tab_ok ok_l2Run (hk := ?_)
        apply G.seq
        refine G.rg tab_ok ok_l2Run (hk := ?_)
        apply G.seq
        refine G.rg tab_ok ok_l2Run (hk := ?_)
        apply G.seq
        apply G.seq
        refine G.rg tab_ok ok_l2Run (hk := ?_)
        refine G.iffF (h2 := ?_)
        apply G.skip
        apply G.seq
        refine G.rg tab_ok ok_l2Run (hk := ?_)
        refine G.iffT (h1 := ?_)
        refine G.rg tab_ok ok_l2Run (hk := ?_)
        refine G.unfocusO 2 p.toNat 9 (r := s.outs.getD p.toNat default ++ [stepW (l.getD s.pc.toNat default) s.rs]) rfl rfl (by decide) (by simp) hq2 ?_
        apply G.blk
        refine G.nm [1, 2, 3, 10, 11, 13] (h := ?_)
        exact G.upto (hJ2 (nextP l ins s, n - 1) ⟨hw.next hc1 hc2 hst, goP_pred hst (by omega) hg, by simp only; omega⟩ (by simp only; omega)) (by simp [nextP, wP, xP, tokP, c0, hp, hn1])
def r_l2Run (xs0 : List A) (rr : A) : Prop := ∃ (i : Int) (o : Int) (l : List I4) (ins : List (List Int)) (fuel : Int), (progOk i o l = true) ∧ (IW i ins) ∧ (0 ≤ fuel) ∧ (fuel ≤ 3000) ∧ xs0 = [.agg [.int .i64 i, .int .i64 o, .row false 4 (l.map insv)], .row false 1 (ins.map ivL), .int .i64 fuel] ∧ rr = .tup [.row true 1 ((goP l ins fuel.toNat (ps0 i o)).1.outs.map ovL), .row true 1 ((goP l ins fuel.toNat (ps0 i o)).1.used.map iv), .int .i64 (goP l ins fuel.toNat (ps0 i o)).2.1, .int .i64 (goP l ins fuel.toNat (ps0 i o)).2.2]
noncomputable def q_l2Run : List A → Option A := kgr r_l2Run
theorem k_l2Run : KOk Try.prog (91, q_l2Run) := kgr_ok (enters_of Try.func91 rfl rfl) (by rintro xs0 rr ⟨i, o, l, ins, fuel, hc1, hc2, hc3, hc4, rfl, rfl⟩; exact l2Run_ac i o l ins fuel hc1 hc2 hc3 hc4)
theorem e_l2Run : ∀ (i : Int) (o : Int) (l : List I4) (ins : List (List Int)) (fuel : Int), (progOk i o l = true) → (IW i ins) → (0 ≤ fuel) → (fuel ≤ 3000) → q_l2Run [.agg [.int .i64 i, .int .i64 o, .row false 4 (l.map insv)], .row false 1 (ins.map ivL), .int .i64 fuel] = some (.tup [.row true 1 ((goP l ins fuel.toNat (ps0 i o)).1.outs.map ovL), .row true 1 ((goP l ins fuel.toNat (ps0 i o)).1.used.map iv), .int .i64 (goP l ins fuel.toNat (ps0 i o)).2.1, .int .i64 (goP l ins fuel.toNat (ps0 i o)).2.2]) := by
  intro i o l ins fuel hc1 hc2 hc3 hc4
  refine kgr_eq (fun xs0 rr r2 h h2 => ?_) ⟨i, o, l, ins, fuel, hc1, hc2, hc3, hc4, rfl, rfl⟩
  obtain ⟨i1, o1, l1, ins1, fuel1, _, _, _, _, e1, rfl⟩ := h; obtain ⟨i2, o2, l2, ins2, fuel2, _, _, _, _, e2, rfl⟩ := h2
  rw [e1] at e2
  simp only [List.cons.injEq, A.int.injEq, A.agg.injEq, A.row.injEq, insv_inj, ivL_inj, true_and, and_true] at e2
  obtain ⟨⟨e3, e4, e5⟩, e6, e7⟩ := e2
  subst e3 e4 e5 e6 e7
  rfl

end Go.Proofs.Ytmijpnghcggdfaa.Ab
