/- Walks of functions of the program: what each answers, for all arguments that meet its conditions. -/
import Derived.Test.YticgaflgbljhlaaAbN3
import Derived.Test.YticgaflgbljhlaaAbN4
namespace Go.Proofs.Yticgaflgbljhlaa.Ab
open Go
set_option linter.unusedVariables false
set_option linter.unusedSimpArgs false
set_option maxHeartbeats 4000000

theorem ok_specIsNetwork : Kn.ok Try.prog (kof [(133, q_specIsProgram), (134, q_l3Ends), (68, q_specIsStream), (135, q_l3To), (136, q_l3From)]) := kof_cons k_specIsProgram (kof_cons k_l3Ends (kof_cons k_specIsStream (kof_cons k_l3To (kof_cons k_l3From ((kof_nil _))))))
theorem specIsNetwork_ac (ps : List PG) (ks : List LK) (hc1 : NW ps) (hc2 : KW ks) (hc3 : ps.length < 3518437208781) (hc4 : ks.length < 2513169434844) : AC Try.prog 65 [.agg [.row false 3 (ps.map pv), .row false 5 (ks.map kv)]] (.bool (netOk ps ks)) := by
  have e_specIsProgram := e_specIsProgram
  have e_l3Ends := e_l3Ends
  have e_specIsStream := e_specIsStream
  have e_l3To := e_l3To
  have e_l3From := e_l3From
  refine AC.of tab_ok Try.func65 rfl (Nat.le_of_ble_eq_true rfl) fun w0 S0 => ?_
  change G _ _ ⟨[(0, .agg [.row false 3 (ps.map pv), .row false 5 (ks.map kv)])], [], 81⟩
  apply G.seq
  refine G.rg tab_ok ok_specIsNetwork (hk := ?_)
  apply G.seq
  apply G.seq
  refine G.rg tab_ok ok_specIsNetwork (hk := ?_)
  refine G.fg [1, 20] (hk := ?_)
  refine G.iff (h1 := fun h1 => ?_) (h2 := fun h1 => ?_)
  · try simp only [decide_eq_true_eq, decide_eq_false_iff_not, Bool.and_eq_true, Bool.and_eq_false_imp, Bool.or_eq_true, Bool.or_eq_false_iff, Bool.not_eq_true', Bool.not_eq_false', bne_iff_ne, beq_iff_eq, bne_eq_false_iff_eq, beq_eq_false_iff_ne, ne_eq, Int.ofNat_lt, Int.not_lt, Int.not_le, Int.ofNat_le, Nat.not_lt, Nat.not_le, gt_iff_lt, ge_iff_le] at h1
    apply G.seq
    refine G.rg tab_ok ok_specIsNetwork (hk := ?_)
    refine G.fin tab_ok (hr := ?_)
    simp only [oneOrTup]
    congr 1
    exact (netOk_small h1).symm
  · try simp only [decide_eq_true_eq, decide_eq_false_iff_not, Bool.and_eq_true, Bool.and_eq_false_imp, Bool.or_eq_true, Bool.or_eq_false_iff, Bool.not_eq_true', Bool.not_eq_false', bne_iff_ne, beq_iff_eq, bne_eq_false_iff_eq, beq_eq_false_iff_ne, ne_eq, Int.ofNat_lt, Int.not_lt, Int.not_le, Int.ofNat_le, Nat.not_lt, Nat.not_le, gt_iff_lt, ge_iff_le] at h1
    apply G.skip
    apply G.seq
    apply G.seq
    refine G.rg tab_ok ok_specIsNetwork (hk := ?_)
    apply G.block
    have hs12 : netSmall ps ks = true := small_yes (by omega)
    refine G.cn [1, 22, 23, 24] [0] (h := ?_)
    refine G.loopX (fun j : Nat => ⟨[(1, .ptr 0 0 0), (22, .row false 3 (ps.map pv)), (23, .int .i64 ps.length), (24, .int .i64 j)], [some (2, [[.row false 3 (ps.map pv), .row false 5 (ks.map kv)]])], 81⟩) (fun j => j ≤ ps.length ∧ ∀ k < j, pgOk (ps.getD k default) = true) (fun j => ps.length - j) (0) (⟨Nat.zero_le _, by omega⟩) (by simp) ?_
    intro j hj J hJ
    obtain ⟨hj, hall⟩ := hj
    have hw : IntKind.i64.wrap ((j : Int) + 1) = (j : Int) + 1 := wrap64 (by omega) (by omega)
    apply G.seq
    refine G.rg tab_ok ok_specIsNetwork (hk := ?_)
    apply G.seq
    refine G.iff (h1 := fun h2 => ?_) (h2 := fun h2 => ?_)
    · try simp only [decide_eq_true_eq, decide_eq_false_iff_not, Bool.and_eq_true, Bool.and_eq_false_imp, Bool.or_eq_true, Bool.or_eq_false_iff, Bool.not_eq_true', Bool.not_eq_false', bne_iff_ne, beq_iff_eq, bne_eq_false_iff_eq, beq_eq_false_iff_ne, ne_eq, Int.ofNat_lt, Int.not_lt, Int.not_le, Int.ofNat_le, Nat.not_lt, Nat.not_le, gt_iff_lt, ge_iff_le] at h2
      apply G.skip
      apply G.seq
      apply G.block
      apply G.seq
      refine G.rg tab_ok ok_specIsNetwork (hk := ?_)
      apply G.seq
      have hlr : (ps.getD j default).l.length < 4398046511104 := hc1 _ (getD_mem0 h2)
      refine G.rg tab_ok ok_specIsNetwork (hk := ?_)
      refine G.iff (h1 := fun h3 => ?_) (h2 := fun h3 => ?_)
      · try simp only [decide_eq_true_eq, decide_eq_false_iff_not, Bool.and_eq_true, Bool.and_eq_false_imp, Bool.or_eq_true, Bool.or_eq_false_iff, Bool.not_eq_true', Bool.not_eq_false', bne_iff_ne, beq_iff_eq, bne_eq_false_iff_eq, beq_eq_false_iff_ne, ne_eq, Int.ofNat_lt, Int.not_lt, Int.not_le, Int.ofNat_le, Nat.not_lt, Nat.not_le, gt_iff_lt, ge_iff_le] at h3
        apply G.seq
        refine G.rg tab_ok ok_specIsNetwork (hk := ?_)
        refine G.fin tab_ok (hr := ?_)
        simp only [oneOrTup]
        congr 1
        exact (netOk_pg h2 h3).symm
      · try simp only [decide_eq_true_eq, decide_eq_false_iff_not, Bool.and_eq_true, Bool.and_eq_false_imp, Bool.or_eq_true, Bool.or_eq_false_iff, Bool.not_eq_true', Bool.not_eq_false', bne_iff_ne, beq_iff_eq, bne_eq_false_iff_eq, beq_eq_false_iff_ne, ne_eq, Int.ofNat_lt, Int.not_lt, Int.not_le, Int.ofNat_le, Nat.not_lt, Nat.not_le, gt_iff_lt, ge_iff_le] at h3
        apply G.skip
        apply G.blk
        refine G.rg tab_ok ok_specIsNetwork (hk := ?_)
        refine G.cn [1, 22, 23, 24] [0] (h := ?_)
        exact G.upto (hJ (j + 1) ⟨by omega, gupto (p := pgOk) hall h3⟩ (by omega)) (by simp)
    · try simp only [decide_eq_true_eq, decide_eq_false_iff_not, Bool.and_eq_true, Bool.and_eq_false_imp, Bool.or_eq_true, Bool.or_eq_false_iff, Bool.not_eq_true', Bool.not_eq_false', bne_iff_ne, beq_iff_eq, bne_eq_false_iff_eq, beq_eq_false_iff_ne, ne_eq, Int.ofNat_lt, Int.not_lt, Int.not_le, Int.ofNat_le, Nat.not_lt, Nat.not_le, gt_iff_lt, ge_iff_le] at h2
      refine G.exit rfl ?_
      apply G.seq
      apply G.seq
      refine G.rg tab_ok ok_specIsNetwork (hk := ?_)
      apply G.block
      have hpa : ps.all pgOk = true := gall (p := pgOk) (fun k hk => hall k (by omega))
      clear hJ hall hj
      refine G.cn [1, 33, 34, 35] [0] (h := ?_)
      refine G.loopX (fun j : Nat => ⟨[(1, .ptr 0 0 0), (33, .row false 5 (ks.map kv)), (34, .int .i64 ks.length), (35, .int .i64 j)], [some (2, [[.row false 3 (ps.map pv), .row false 5 (ks.map kv)]])], 81⟩) (fun j => j ≤ ks.length ∧ ∀ k < j, linkOk ps (ks.getD k default) = true) (fun j => ks.length - j) (0) (⟨Nat.zero_le _, by omega⟩) (by simp) ?_
      intro j hj J hJ
      obtain ⟨hj, hall⟩ := hj
      have hw : IntKind.i64.wrap ((j : Int) + 1) = (j : Int) + 1 := wrap64 (by omega) (by omega)
      apply G.seq
      refine G.rg tab_ok ok_specIsNetwork (hk := ?_)
      apply G.seq
      refine G.iff (h1 := fun h4 => ?_) (h2 := fun h4 => ?_)
      · try simp only [decide_eq_true_eq, decide_eq_false_iff_not, Bool.and_eq_true, Bool.and_eq_false_imp, Bool.or_eq_true, Bool.or_eq_false_iff, Bool.not_eq_true', Bool.not_eq_false', bne_iff_ne, beq_iff_eq, bne_eq_false_iff_eq, beq_eq_false_iff_ne, ne_eq, Int.ofNat_lt, Int.not_lt, Int.not_le, Int.ofNat_le, Nat.not_lt, Nat.not_le, gt_iff_lt, ge_iff_le] at h4
        apply G.skip
        apply G.seq
        apply G.block
        apply G.seq
        refine G.rg tab_ok ok_specIsNetwork (hk := ?_)
        apply G.seq
        have hlr : (ks.getD j default).tk.length < 17592186044416 := hc2 _ (getD_mem0 h4)
        refine G.rg tab_ok ok_specIsNetwork (hk := ?_)
        refine G.fg [1, 33, 34, 35, 48] (hk := ?_)
        refine G.iff (h1 := fun h5 => ?_) (h2 := fun h5 => ?_)
        · try simp only [decide_eq_true_eq, decide_eq_false_iff_not, Bool.and_eq_true, Bool.and_eq_false_imp, Bool.or_eq_true, Bool.or_eq_false_iff, Bool.not_eq_true', Bool.not_eq_false', bne_iff_ne, beq_iff_eq, bne_eq_false_iff_eq, beq_eq_false_iff_ne, ne_eq, Int.ofNat_lt, Int.not_lt, Int.not_le, Int.ofNat_le, Nat.not_lt, Nat.not_le, gt_iff_lt, ge_iff_le] at h5
          apply G.seq
          refine G.rg tab_ok ok_specIsNetwork (hk := ?_)
          refine G.fin tab_ok (hr := ?_)
          simp only [oneOrTup]
          congr 1
          exact (netOk_lk h4 (link_no (if_no h5))).symm
        · try simp only [decide_eq_true_eq, decide_eq_false_iff_not, Bool.and_eq_true, Bool.and_eq_false_imp, Bool.or_eq_true, Bool.or_eq_false_iff, Bool.not_eq_true', Bool.not_eq_false', bne_iff_ne, beq_iff_eq, bne_eq_false_iff_eq, beq_eq_false_iff_ne, ne_eq, Int.ofNat_lt, Int.not_lt, Int.not_le, Int.ofNat_le, Nat.not_lt, Nat.not_le, gt_iff_lt, ge_iff_le] at h5
          apply G.skip
          apply G.blk
          refine G.rg tab_ok ok_specIsNetwork (hk := ?_)
          refine G.cn [1, 33, 34, 35] [0] (h := ?_)
          exact G.upto (hJ (j + 1) ⟨by omega, gupto (p := linkOk ps) hall (link_yes (if_yes h5))⟩ (by omega)) (by simp)
      · try simp only [decide_eq_true_eq, decide_eq_false_iff_not, Bool.and_eq_true, Bool.and_eq_false_imp, Bool.or_eq_true, Bool.or_eq_false_iff, Bool.not_eq_true', Bool.not_eq_false', bne_iff_ne, beq_iff_eq, bne_eq_false_iff_eq, beq_eq_false_iff_ne, ne_eq, Int.ofNat_lt, Int.not_lt, Int.not_le, Int.ofNat_le, Nat.not_lt, Nat.not_le, gt_iff_lt, ge_iff_le] at h4
        refine G.exit rfl ?_
        apply G.seq
        apply G.seq
        refine G.rg tab_ok ok_specIsNetwork (hk := ?_)
        apply G.block
        have hla : ks.all (linkOk ps) = true := gall (p := linkOk ps) (fun k hk => hall k (by omega))
        clear hJ hall hj
        refine G.cn [1, 51, 52, 53] [0] (h := ?_)
        refine G.loopX (fun i : Nat => ⟨[(1, .ptr 0 0 0), (51, .row false 3 (ps.map pv)), (52, .int .i64 ps.length), (53, .int .i64 i)], [some (2, [[.row false 3 (ps.map pv), .row false 5 (ks.map kv)]])], 81⟩) (fun i => i ≤ ps.length ∧ ∀ k < i, portsOk ps ks k = true) (fun i => ps.length - i) (0) (⟨Nat.zero_le _, by omega⟩) (by simp) ?_
        intro i hi J2 hJ2
        obtain ⟨hi, hpo⟩ := hi
        have hwi : IntKind.i64.wrap ((i : Int) + 1) = (i : Int) + 1 := wrap64 (by omega) (by omega)
        apply G.seq
        refine G.rg tab_ok ok_specIsNetwork (hk := ?_)
        apply G.seq
        refine G.iff (h1 := fun h6 => ?_) (h2 := fun h6 => ?_)
        · try simp only [decide_eq_true_eq, decide_eq_false_iff_not, Bool.and_eq_true, Bool.and_eq_false_imp, Bool.or_eq_true, Bool.or_eq_false_iff, Bool.not_eq_true', Bool.not_eq_false', bne_iff_ne, beq_iff_eq, bne_eq_false_iff_eq, beq_eq_false_iff_ne, ne_eq, Int.ofNat_lt, Int.not_lt, Int.not_le, Int.ofNat_le, Nat.not_lt, Nat.not_le, gt_iff_lt, ge_iff_le] at h6
          apply G.skip
          apply G.seq
          apply G.block
          apply G.seq
          refine G.rg tab_ok ok_specIsNetwork (hk := ?_)
          apply G.seq
          apply G.seq
          refine G.rg tab_ok ok_specIsNetwork (hk := ?_)
          apply G.block
          obtain ⟨⟨bi0, bi3⟩, ⟨bo0, bo3⟩, _, _⟩ := pg_bd hpa (k := i) (by omega)
          refine G.cn [1, 7, 8, 9, 51, 52, 53] [0, 1] (h := ?_)
          refine G.loopX (fun k : Nat => ⟨[(1, .ptr 0 0 0), (7, .int .i64 i), (8, .ptr 1 0 0), (9, .int .i64 k), (51, .row false 3 (ps.map pv)), (52, .int .i64 ps.length), (53, .int .i64 i)], [some (2, [[.row false 3 (ps.map pv), .row false 5 (ks.map kv)]]), some (3, [[.int .i64 (ps.getD i default).i, .int .i64 (ps.getD i default).o, .row false 4 ((ps.getD i default).l.map insv)]])], 81⟩) (fun k => k ≤ (ps.getD i default).i.toNat ∧ ∀ m < k, 0 ≤ onlyAt (isTo i m) ks) (fun k => (ps.getD i default).i.toNat - k) (0) (⟨Nat.zero_le _, by omega⟩) (by simp) ?_
          intro k hk J hJ
          obtain ⟨hk, hall⟩ := hk
          have hwk : IntKind.i64.wrap ((k : Int) + 1) = (k : Int) + 1 := wrap64 (by omega) (by omega)
          apply G.seq
          apply G.seq
          refine G.rg tab_ok ok_specIsNetwork (hk := ?_)
          refine G.iff (h1 := fun h7 => ?_) (h2 := fun h7 => ?_)
          · try simp only [decide_eq_true_eq, decide_eq_false_iff_not, Bool.and_eq_true, Bool.and_eq_false_imp, Bool.or_eq_true, Bool.or_eq_false_iff, Bool.not_eq_true', Bool.not_eq_false', bne_iff_ne, beq_iff_eq, bne_eq_false_iff_eq, beq_eq_false_iff_ne, ne_eq, Int.ofNat_lt, Int.not_lt, Int.not_le, Int.ofNat_le, Nat.not_lt, Nat.not_le, gt_iff_lt, ge_iff_le] at h7
            apply G.skip
            apply G.seq
            apply G.block
            apply G.seq
            refine G.rg tab_ok ok_specIsNetwork (hk := ?_)
            refine G.fg [1, 7, 8, 9, 51, 52, 53, 68] (hk := ?_)
            refine G.iff (h1 := fun h8 => ?_) (h2 := fun h8 => ?_)
            · try simp only [decide_eq_true_eq, decide_eq_false_iff_not, Bool.and_eq_true, Bool.and_eq_false_imp, Bool.or_eq_true, Bool.or_eq_false_iff, Bool.not_eq_true', Bool.not_eq_false', bne_iff_ne, beq_iff_eq, bne_eq_false_iff_eq, beq_eq_false_iff_ne, ne_eq, Int.ofNat_lt, Int.not_lt, Int.not_le, Int.ofNat_le, Nat.not_lt, Nat.not_le, gt_iff_lt, ge_iff_le] at h8
              apply G.seq
              refine G.rg tab_ok ok_specIsNetwork (hk := ?_)
              refine G.fin tab_ok (hr := ?_)
              simp only [oneOrTup]
              congr 1
              exact (netOk_in h6 h7 h8).symm
            · try simp only [decide_eq_true_eq, decide_eq_false_iff_not, Bool.and_eq_true, Bool.and_eq_false_imp, Bool.or_eq_true, Bool.or_eq_false_iff, Bool.not_eq_true', Bool.not_eq_false', bne_iff_ne, beq_iff_eq, bne_eq_false_iff_eq, beq_eq_false_iff_ne, ne_eq, Int.ofNat_lt, Int.not_lt, Int.not_le, Int.ofNat_le, Nat.not_lt, Nat.not_le, gt_iff_lt, ge_iff_le] at h8
              apply G.skip
              apply G.blk
              refine G.rg tab_ok ok_specIsNetwork (hk := ?_)
              refine G.cn [1, 7, 8, 9, 51, 52, 53] [0, 1] (h := ?_)
              exact G.upto (hJ (k + 1) ⟨by omega, up_step hall (by omega)⟩ (by omega)) (by simp)
          · try simp only [decide_eq_true_eq, decide_eq_false_iff_not, Bool.and_eq_true, Bool.and_eq_false_imp, Bool.or_eq_true, Bool.or_eq_false_iff, Bool.not_eq_true', Bool.not_eq_false', bne_iff_ne, beq_iff_eq, bne_eq_false_iff_eq, beq_eq_false_iff_ne, ne_eq, Int.ofNat_lt, Int.not_lt, Int.not_le, Int.ofNat_le, Nat.not_lt, Nat.not_le, gt_iff_lt, ge_iff_le] at h7
            refine G.exit rfl ?_
            apply G.seq
            refine G.rg tab_ok ok_specIsNetwork (hk := ?_)
            apply G.block
            have hins : ∀ m < (ps.getD i default).i.toNat, 0 ≤ onlyAt (isTo i m) ks := fun m hm => hall m (by omega)
            clear hJ hall hk hwk
            refine G.cn [1, 7, 8, 10, 51, 52, 53] [0, 1] (h := ?_)
            refine G.loopX (fun k : Nat => ⟨[(1, .ptr 0 0 0), (7, .int .i64 i), (8, .ptr 1 0 0), (10, .int .i64 k), (51, .row false 3 (ps.map pv)), (52, .int .i64 ps.length), (53, .int .i64 i)], [some (2, [[.row false 3 (ps.map pv), .row false 5 (ks.map kv)]]), some (3, [[.int .i64 (ps.getD i default).i, .int .i64 (ps.getD i default).o, .row false 4 ((ps.getD i default).l.map insv)]])], 81⟩) (fun k => k ≤ (ps.getD i default).o.toNat ∧ ∀ m < k, 0 ≤ onlyAt (isFr i m) ks) (fun k => (ps.getD i default).o.toNat - k) (0) (⟨Nat.zero_le _, by omega⟩) (by simp) ?_
            intro k hk J hJ
            obtain ⟨hk, hall⟩ := hk
            have hwk : IntKind.i64.wrap ((k : Int) + 1) = (k : Int) + 1 := wrap64 (by omega) (by omega)
            apply G.seq
            apply G.seq
            refine G.rg tab_ok ok_specIsNetwork (hk := ?_)
            refine G.iff (h1 := fun h9 => ?_) (h2 := fun h9 => ?_)
            · try simp only [decide_eq_true_eq, decide_eq_false_iff_not, Bool.and_eq_true, Bool.and_eq_false_imp, Bool.or_eq_true, Bool.or_eq_false_iff, Bool.not_eq_true', Bool.not_eq_false', bne_iff_ne, beq_iff_eq, bne_eq_false_iff_eq, beq_eq_false_iff_ne, ne_eq, Int.ofNat_lt, Int.not_lt, Int.not_le, Int.ofNat_le, Nat.not_lt, Nat.not_le, gt_iff_lt, ge_iff_le] at h9
              apply G.skip
              apply G.seq
              apply G.block
              apply G.seq
              refine G.rg tab_ok ok_specIsNetwork (hk := ?_)
              refine G.fg [1, 7, 8, 10, 51, 52, 53, 79] (hk := ?_)
              refine G.iff (h1 := fun h10 => ?_) (h2 := fun h10 => ?_)
              · try simp only [decide_eq_true_eq, decide_eq_false_iff_not, Bool.and_eq_true, Bool.and_eq_false_imp, Bool.or_eq_true, Bool.or_eq_false_iff, Bool.not_eq_true', Bool.not_eq_false', bne_iff_ne, beq_iff_eq, bne_eq_false_iff_eq, beq_eq_false_iff_ne, ne_eq, Int.ofNat_lt, Int.not_lt, Int.not_le, Int.ofNat_le, Nat.not_lt, Nat.not_le, gt_iff_lt, ge_iff_le] at h10
                apply G.seq
                refine G.rg tab_ok ok_specIsNetwork (hk := ?_)
                refine G.fin tab_ok (hr := ?_)
                simp only [oneOrTup]
                congr 1
                exact (netOk_out h6 h9 h10).symm
              · try simp only [decide_eq_true_eq, decide_eq_false_iff_not, Bool.and_eq_true, Bool.and_eq_false_imp, Bool.or_eq_true, Bool.or_eq_false_iff, Bool.not_eq_true', Bool.not_eq_false', bne_iff_ne, beq_iff_eq, bne_eq_false_iff_eq, beq_eq_false_iff_ne, ne_eq, Int.ofNat_lt, Int.not_lt, Int.not_le, Int.ofNat_le, Nat.not_lt, Nat.not_le, gt_iff_lt, ge_iff_le] at h10
                apply G.skip
                apply G.blk
                refine G.rg tab_ok ok_specIsNetwork (hk := ?_)
                refine G.cn [1, 7, 8, 10, 51, 52, 53] [0, 1] (h := ?_)
                exact G.upto (hJ (k + 1) ⟨by omega, up_step hall (by omega)⟩ (by omega)) (by simp)
            · try simp only [decide_eq_true_eq, decide_eq_false_iff_not, Bool.and_eq_true, Bool.and_eq_false_imp, Bool.or_eq_true, Bool.or_eq_false_iff, Bool.not_eq_true', Bool.not_eq_false', bne_iff_ne, beq_iff_eq, bne_eq_false_iff_eq, beq_eq_false_iff_ne, ne_eq, Int.ofNat_lt, Int.not_lt, Int.not_le, Int.ofNat_le, Nat.not_lt, Nat.not_le, gt_iff_lt, ge_iff_le] at h9
              refine G.exit rfl ?_
              apply G.blk
              refine G.rg tab_ok ok_specIsNetwork (hk := ?_)
              refine G.cn [1, 51, 52, 53] [0] (h := ?_)
              exact G.upto (hJ2 (i + 1) ⟨by omega, up_step hpo (portsOk_of (fun k hk => hins k (by omega)) (fun k hk => hall k (by omega)))⟩ (by omega)) (by simp)
        · try simp only [decide_eq_true_eq, decide_eq_false_iff_not, Bool.and_eq_true, Bool.and_eq_false_imp, Bool.or_eq_true, Bool.or_eq_false_iff, Bool.not_eq_true', Bool.not_eq_false', bne_iff_ne, beq_iff_eq, bne_eq_false_iff_eq, beq_eq_false_iff_ne, ne_eq, Int.ofNat_lt, Int.not_lt, Int.not_le, Int.ofNat_le, Nat.not_lt, Nat.not_le, gt_iff_lt, ge_iff_le] at h6
          refine G.exit rfl ?_
          apply G.seq
          refine G.rg tab_ok ok_specIsNetwork (hk := ?_)
          refine G.fin tab_ok (hr := ?_)
          simp only [oneOrTup]
          congr 1
          exact (netOk_yes hs12 hpa hla (fun q hq => hpo q (by omega))).symm
def r_specIsNetwork (xs0 : List A) (rr : A) : Prop := ∃ (ps : List PG) (ks : List LK), (NW ps) ∧ (KW ks) ∧ (ps.length < 3518437208781) ∧ (ks.length < 2513169434844) ∧ xs0 = [.agg [.row false 3 (ps.map pv), .row false 5 (ks.map kv)]] ∧ rr = .bool (netOk ps ks)
noncomputable def q_specIsNetwork : List A → Option A := kgr r_specIsNetwork
theorem k_specIsNetwork : KOk Try.prog (65, q_specIsNetwork) := kgr_ok (enters_of Try.func65 rfl rfl) (by rintro xs0 rr ⟨ps, ks, hc1, hc2, hc3, hc4, rfl, rfl⟩; exact specIsNetwork_ac ps ks hc1 hc2 hc3 hc4)
theorem e_specIsNetwork : ∀ (ps : List PG) (ks : List LK), (NW ps) → (KW ks) → (ps.length < 3518437208781) → (ks.length < 2513169434844) → q_specIsNetwork [.agg [.row false 3 (ps.map pv), .row false 5 (ks.map kv)]] = some (.bool (netOk ps ks)) := by
  intro ps ks hc1 hc2 hc3 hc4
  refine kgr_eq (fun xs0 rr r2 h h2 => ?_) ⟨ps, ks, hc1, hc2, hc3, hc4, rfl, rfl⟩
  obtain ⟨ps1, ks1, _, _, _, _, e1, rfl⟩ := h; obtain ⟨ps2, ks2, _, _, _, _, e2, rfl⟩ := h2
  rw [e1] at e2
  simp only [List.cons.injEq, A.int.injEq, A.bool.injEq, A.agg.injEq, A.row.injEq, pv_inj, kv_inj, true_and, and_true] at e2
  obtain ⟨e3, e4⟩ := e2
  subst e3 e4
  rfl

end Go.Proofs.Yticgaflgbljhlaa.Ab
