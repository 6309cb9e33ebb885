/- Walks of functions of the program: what each answers, for all arguments that meet its conditions. -/
import Derived.Test.YticgaflgbljhlaaAbNet2
import Derived.Test.YticgaflgbljhlaaAbNet1
import Derived.Test.YticgaflgbljhlaaFwB
import Derived.Test.YticgaflgbljhlaaAbAuto2
import Derived.Test.YticgaflgbljhlaaAbAutoF
import Derived.Test.YticgaflgbljhlaaAbAutoH
namespace Go.Proofs.Yticgaflgbljhlaa.Ab
open Go
set_option linter.unusedVariables false
set_option linter.unusedSimpArgs false
set_option maxHeartbeats 4000000

theorem ok_implIsNetwork : Kn.ok Try.prog (kof [(123, q_implIsProgram), (76, q_implIsStream)]) := kof_cons k_implIsProgram (kof_cons k_implIsStream ((kof_nil _)))
theorem implIsNetwork_ac (ps : List PG) (ks : List LK) (hc1 : NW ps) (hc2 : KW ks) (hc3 : ps.length < 3518437208781) (hc4 : ks.length < 2513169434844) : AC Try.prog 74 [.agg [.row false 3 (ps.map pv), .row false 5 (ks.map kv)]] (.bool (netOk ps ks)) := by
  have e_implIsProgram := e_implIsProgram
  have e_implIsStream := e_implIsStream
  have hft : (false == true) = false := rfl
  have htf : (true == false) = false := rfl
  refine AC.of tab_ok Try.func74 rfl (Nat.le_of_ble_eq_true rfl) fun w0 S0 => ?_
  change G _ _ ⟨[(0, .agg [.row false 3 (ps.map pv), .row false 5 (ks.map kv)])], [], 189⟩
  apply G.seq
  refine G.rg tab_ok ok_implIsNetwork (hk := ?_)
  apply G.seq
  apply G.seq
  refine G.rg tab_ok ok_implIsNetwork (hk := ?_)
  refine G.fg [1, 22, 49, 50, 51, 52, 53, 54, 55, 56, 57, 58, 59, 60, 61, 62, 63, 64, 65, 66, 67, 68, 69, 70, 71, 72, 73, 74, 75, 76, 77, 78, 79, 80, 81, 82, 83, 84, 85, 86, 87, 88, 89, 90, 91, 97, 98, 99, 100, 101, 102, 103, 104, 105, 106, 107, 108, 109, 110, 111, 112, 113, 114, 115, 116, 117, 118, 119, 120, 121, 122, 123] (hk := ?_)
  refine G.iff (h1 := fun h1 => ?_) (h2 := fun h1 => ?_)
  · try simp only [decide_eq_true_eq, decide_eq_false_iff_not, Bool.and_eq_true, Bool.and_eq_false_imp, Bool.or_eq_true, Bool.or_eq_false_iff, Bool.not_eq_true', Bool.not_eq_false', bne_iff_ne, beq_iff_eq, bne_eq_false_iff_eq, beq_eq_false_iff_ne, ne_eq, Int.ofNat_lt, Int.not_lt, Int.not_le, Int.ofNat_le, Nat.not_lt, Nat.not_le, gt_iff_lt, ge_iff_le] at h1
    apply G.seq
    refine G.rg tab_ok ok_implIsNetwork (hk := ?_)
    refine G.fin tab_ok (hr := ?_)
    simp only [oneOrTup]
    congr 1
    rw [← netI_eq]
    exact (netI_small h1).symm
  · try simp only [decide_eq_true_eq, decide_eq_false_iff_not, Bool.and_eq_true, Bool.and_eq_false_imp, Bool.or_eq_true, Bool.or_eq_false_iff, Bool.not_eq_true', Bool.not_eq_false', bne_iff_ne, beq_iff_eq, bne_eq_false_iff_eq, beq_eq_false_iff_ne, ne_eq, Int.ofNat_lt, Int.not_lt, Int.not_le, Int.ofNat_le, Nat.not_lt, Nat.not_le, gt_iff_lt, ge_iff_le] at h1
    apply G.skip
    apply G.seq
    refine G.rg tab_ok ok_implIsNetwork (hk := ?_)
    apply G.seq
    apply G.seq
    refine G.rg tab_ok ok_implIsNetwork (hk := ?_)
    apply G.block
    have hs12 : netSmall ps ks = true := small_yes (by omega)
    refine G.cn [1, 3, 24, 25, 26] [0] (h := ?_)
    refine G.loopX (fun j : Nat => ⟨[(1, .ptr 0 0 0), (3, .int .i64 (gtot portN (ps.take j) : Nat)), (24, .row false 3 (ps.map pv)), (25, .int .i64 ps.length), (26, .int .i64 j)], [some (2, [[.row false 3 (ps.map pv), .row false 5 (ks.map kv)]])], 189⟩) (fun j => j ≤ ps.length ∧ (∀ k < j, pgOk (ps.getD k default) = true) ∧ gtot portN (ps.take j) ≤ 6 * j) (fun j => ps.length - j) (0) (⟨Nat.zero_le _, by omega, by simp [gtot_nil]⟩) (by simp [gtot_nil]) ?_
    intro j hj J hJ
    obtain ⟨hj, hall, hpt⟩ := hj
    have hw : IntKind.i64.wrap ((j : Int) + 1) = (j : Int) + 1 := wrap64 (by omega) (by omega)
    apply G.seq
    refine G.rg tab_ok ok_implIsNetwork (hk := ?_)
    apply G.seq
    refine G.iff (h1 := fun h2 => ?_) (h2 := fun h2 => ?_)
    · try simp only [decide_eq_true_eq, decide_eq_false_iff_not, Bool.and_eq_true, Bool.and_eq_false_imp, Bool.or_eq_true, Bool.or_eq_false_iff, Bool.not_eq_true', Bool.not_eq_false', bne_iff_ne, beq_iff_eq, bne_eq_false_iff_eq, beq_eq_false_iff_ne, ne_eq, Int.ofNat_lt, Int.not_lt, Int.not_le, Int.ofNat_le, Nat.not_lt, Nat.not_le, gt_iff_lt, ge_iff_le] at h2
      apply G.skip
      apply G.seq
      apply G.block
      apply G.seq
      refine G.rg tab_ok ok_implIsNetwork (hk := ?_)
      apply G.seq
      apply G.seq
      have hlr : (ps.getD j default).l.length < 4398046511104 := hc1 _ (getD_mem0 h2)
      refine G.rg tab_ok ok_implIsNetwork (hk := ?_)
      refine G.iff (h1 := fun h3 => ?_) (h2 := fun h3 => ?_)
      · try simp only [decide_eq_true_eq, decide_eq_false_iff_not, Bool.and_eq_true, Bool.and_eq_false_imp, Bool.or_eq_true, Bool.or_eq_false_iff, Bool.not_eq_true', Bool.not_eq_false', bne_iff_ne, beq_iff_eq, bne_eq_false_iff_eq, beq_eq_false_iff_ne, ne_eq, Int.ofNat_lt, Int.not_lt, Int.not_le, Int.ofNat_le, Nat.not_lt, Nat.not_le, gt_iff_lt, ge_iff_le] at h3
        apply G.seq
        refine G.rg tab_ok ok_implIsNetwork (hk := ?_)
        refine G.fin tab_ok (hr := ?_)
        simp only [oneOrTup]
        congr 1
        rw [← netI_eq]
        exact (netI_pg h2 h3).symm
      · try simp only [decide_eq_true_eq, decide_eq_false_iff_not, Bool.and_eq_true, Bool.and_eq_false_imp, Bool.or_eq_true, Bool.or_eq_false_iff, Bool.not_eq_true', Bool.not_eq_false', bne_iff_ne, beq_iff_eq, bne_eq_false_iff_eq, beq_eq_false_iff_ne, ne_eq, Int.ofNat_lt, Int.not_lt, Int.not_le, Int.ofNat_le, Nat.not_lt, Nat.not_le, gt_iff_lt, ge_iff_le] at h3
        apply G.skip
        obtain ⟨⟨bi0, bi3⟩, ⟨bo0, bo3⟩, _⟩ := pg_one (p := ps.getD j default) h3
        have hw1 : IntKind.i64.wrap ((ps.getD j default).i + (ps.getD j default).o) = (ps.getD j default).i + (ps.getD j default).o := wrap64 (by omega) (by omega)
        have hw2 : IntKind.i64.wrap ((gtot portN (ps.take j) : Int) + ((ps.getD j default).i + (ps.getD j default).o)) = (gtot portN (ps.take j) : Int) + ((ps.getD j default).i + (ps.getD j default).o) := wrap64 (by omega) (by omega)
        refine G.rg tab_ok ok_implIsNetwork (hk := ?_)
        apply G.blk
        refine G.rg tab_ok ok_implIsNetwork (hk := ?_)
        refine G.cn [1, 3, 24, 25, 26] [0] (h := ?_)
        have hps := gtot_succ (f := portN) h2
        have hpn : portN (ps.getD j default) = (ps.getD j default).i.toNat + (ps.getD j default).o.toNat := rfl
        rw [hpn] at hps
        have hpv : (gtot portN (ps.take j) : Int) + ((ps.getD j default).i + (ps.getD j default).o) = ((gtot portN (ps.take (j + 1)) : Nat) : Int) := by omega
        exact G.upto (hJ (j + 1) ⟨by omega, gupto (p := pgOk) hall h3, by omega⟩ (by omega)) (by rw [hpv]; simp)
    · try simp only [decide_eq_true_eq, decide_eq_false_iff_not, Bool.and_eq_true, Bool.and_eq_false_imp, Bool.or_eq_true, Bool.or_eq_false_iff, Bool.not_eq_true', Bool.not_eq_false', bne_iff_ne, beq_iff_eq, bne_eq_false_iff_eq, beq_eq_false_iff_ne, ne_eq, Int.ofNat_lt, Int.not_lt, Int.not_le, Int.ofNat_le, Nat.not_lt, Nat.not_le, gt_iff_lt, ge_iff_le] at h2
      refine G.exit rfl ?_
      apply G.seq
      refine G.rg tab_ok ok_implIsNetwork (hk := ?_)
      apply G.seq
      apply G.seq
      refine G.rg tab_ok ok_implIsNetwork (hk := ?_)
      apply G.block
      have hpa : ps.all pgOk = true := gall (p := pgOk) (fun k hk => hall k (by omega))
      obtain rfl : j = ps.length := by omega
      rw [List.take_length] at hpt ⊢
      clear hJ hall hj
      refine G.cn [1, 3, 6, 42, 43, 44] [0] (h := ?_)
      refine G.loopX (fun j : Nat => ⟨[(1, .ptr 0 0 0), (3, .int .i64 (gtot portN ps : Nat)), (6, .int .i64 (gtot endN (ks.take j) : Nat)), (42, .row false 5 (ks.map kv)), (43, .int .i64 ks.length), (44, .int .i64 j)], [some (2, [[.row false 3 (ps.map pv), .row false 5 (ks.map kv)]])], 189⟩) (fun j => j ≤ ks.length ∧ ∀ k < j, goodAt ps ks k = true) (fun j => ks.length - j) (0) (⟨Nat.zero_le _, by omega⟩) (by simp [gtot_nil]) ?_
      intro j hj J2 hJ2
      obtain ⟨hj, hall⟩ := hj
      obtain ⟨x, hx⟩ : ∃ x, ks.getD j default = x := ⟨_, rfl⟩
      have hen := endsN_le ks j hj
      have hw : IntKind.i64.wrap ((j : Int) + 1) = (j : Int) + 1 := wrap64 (by omega) (by omega)
      apply G.seq
      refine G.rg tab_ok ok_implIsNetwork (hk := ?_)
      apply G.seq
      refine G.iff (h1 := fun h4 => ?_) (h2 := fun h4 => ?_)
      · try simp only [decide_eq_true_eq, decide_eq_false_iff_not, Bool.and_eq_true, Bool.and_eq_false_imp, Bool.or_eq_true, Bool.or_eq_false_iff, Bool.not_eq_true', Bool.not_eq_false', bne_iff_ne, beq_iff_eq, bne_eq_false_iff_eq, beq_eq_false_iff_ne, ne_eq, Int.ofNat_lt, Int.not_lt, Int.not_le, Int.ofNat_le, Nat.not_lt, Nat.not_le, gt_iff_lt, ge_iff_le] at h4
        apply G.skip
        apply G.seq
        apply G.block
        apply G.seq
        have hjk : j < ks.length := by omega
        have hlr : x.tk.length < 17592186044416 := by rw [← hx]; exact hc2 _ (getD_mem0 hjk)
        refine G.rg tab_ok ok_implIsNetwork (hk := ?_)
        apply G.seq
        apply G.viaX (st' := ⟨[(1, .ptr 0 0 0), (3, .int .i64 (gtot portN ps : Nat)), (6, .int .i64 (gtot endN (ks.take j) : Nat)), (7, .int .i64 j), (8, .ptr 1 0 0), (9, .bool (x.fr == -1 && x.ou == 0)), (10, .bool (x.to == -1 && x.ip == 0)), (42, .row false 5 (ks.map kv)), (43, .int .i64 ks.length), (44, .int .i64 j)], [some (2, [[.row false 3 (ps.map pv), .row false 5 (ks.map kv)]]), some (5, [[.int .i64 x.fr, .int .i64 x.ou, .int .i64 x.to, .int .i64 x.ip, .row false 1 (x.tk.map iv)]])], 189⟩)
        · intro hvia15
          rcases (show (x.fr = -1 ∧ x.to = -1) ∨ (x.fr = -1 ∧ ¬ x.to = -1) ∨ (¬ x.fr = -1 ∧ x.to = -1) ∨ (¬ x.fr = -1 ∧ ¬ x.to = -1) by omega) with ⟨c1, c2⟩ | ⟨c1, c2⟩ | ⟨c1, c2⟩ | ⟨c1, c2⟩
          · skip
            have d1 : (x.fr == -1) = true := by rw [beq_iff_eq]; exact c1
            have d2 : (x.to == -1) = true := by rw [beq_iff_eq]; exact c2
            clear c1 c2
            refine G.dr mixed tab_ok ok_implIsNetwork [0, 1, 2, 3, 4, 5, 6, 7, 8, 9, 10, 11, 12, 13, 14, 15, 16, 17] (hk := ?_)
            refine G.fg [1, 3, 6, 7, 8, 9, 10, 42, 43, 44] (hk := ?_)
            refine G.meet hvia15 ?_
            simp [d1, d2]
          · skip
            have d1 : (x.fr == -1) = true := by rw [beq_iff_eq]; exact c1
            have d2 : (x.to == -1) = false := by rw [beq_eq_false_iff_ne]; exact c2
            clear c1 c2
            refine G.dr mixed tab_ok ok_implIsNetwork [0, 1, 2, 3, 4, 5, 6, 7, 8, 9, 10, 11, 12, 13, 14, 15, 16, 17] (hk := ?_)
            refine G.fg [1, 3, 6, 7, 8, 9, 10, 42, 43, 44] (hk := ?_)
            refine G.meet hvia15 ?_
            simp [d1, d2]
          · skip
            have d1 : (x.fr == -1) = false := by rw [beq_eq_false_iff_ne]; exact c1
            have d2 : (x.to == -1) = true := by rw [beq_iff_eq]; exact c2
            clear c1 c2
            refine G.dr mixed tab_ok ok_implIsNetwork [0, 1, 2, 3, 4, 5, 6, 7, 8, 9, 10, 11, 12, 13, 14, 15, 16, 17] (hk := ?_)
            refine G.fg [1, 3, 6, 7, 8, 9, 10, 42, 43, 44] (hk := ?_)
            refine G.meet hvia15 ?_
            simp [d1, d2]
          · skip
            have d1 : (x.fr == -1) = false := by rw [beq_eq_false_iff_ne]; exact c1
            have d2 : (x.to == -1) = false := by rw [beq_eq_false_iff_ne]; exact c2
            clear c1 c2
            refine G.dr mixed tab_ok ok_implIsNetwork [0, 1, 2, 3, 4, 5, 6, 7, 8, 9, 10, 11, 12, 13, 14, 15, 16, 17] (hk := ?_)
            refine G.fg [1, 3, 6, 7, 8, 9, 10, 42, 43, 44] (hk := ?_)
            refine G.meet hvia15 ?_
            simp [d1, d2]
        · skip
          apply G.seq
          apply G.seq
          apply G.viaP (Q := frIn ps x ∨ frOut x) (st' := ⟨[(1, .ptr 0 0 0), (3, .int .i64 (gtot portN ps : Nat)), (6, .int .i64 ((gtot endN (ks.take j) : Int) + (if x.fr ≥ 0 then 1 else 0))), (7, .int .i64 j), (8, .ptr 1 0 0), (9, .bool (x.fr == -1 && x.ou == 0)), (10, .bool (x.to == -1 && x.ip == 0)), (42, .row false 5 (ks.map kv)), (43, .int .i64 ks.length), (44, .int .i64 j)], [some (2, [[.row false 3 (ps.map pv), .row false 5 (ks.map kv)]]), some (5, [[.int .i64 x.fr, .int .i64 x.ou, .int .i64 x.to, .int .i64 x.ip, .row false 1 (x.tk.map iv)]])], 189⟩)
          · intro hvia16
            rcases fr_cases ps x with c1 | ⟨c1, c2⟩ | ⟨c1, c2, c3⟩ | ⟨c1, c2, c3, c4⟩ | ⟨c1, c2, c3, c4⟩
            · skip
              have c0 : ¬ x.fr ≥ 0 := by omega
              refine G.dr mixed tab_ok ok_implIsNetwork [0, 1, 2, 3, 4, 5, 6, 7, 8, 9, 10, 11, 12, 13, 14, 15, 16, 17, 18, 19, 20, 21, 22, 23, 24, 25, 26, 27] (hk := ?_)
              refine G.iffF (h2 := ?_)
              apply G.seq
              refine G.rg tab_ok ok_implIsNetwork (hk := ?_)
              refine G.fg [1, 3, 6, 7, 8, 9, 10, 42, 43, 44, 96] (hk := ?_)
              refine G.iff (h1 := fun h6 => ?_) (h2 := fun h6 => ?_)
              · try simp only [decide_eq_true_eq, decide_eq_false_iff_not, Bool.and_eq_true, Bool.and_eq_false_imp, Bool.or_eq_true, Bool.or_eq_false_iff, Bool.not_eq_true', Bool.not_eq_false', bne_iff_ne, beq_iff_eq, bne_eq_false_iff_eq, beq_eq_false_iff_ne, ne_eq, Int.ofNat_lt, Int.not_lt, Int.not_le, Int.ofNat_le, Nat.not_lt, Nat.not_le, gt_iff_lt, ge_iff_le] at h6
                apply G.seq
                refine G.rg tab_ok ok_implIsNetwork (hk := ?_)
                refine G.fin tab_ok (hr := ?_)
                simp only [oneOrTup]
                congr 1
                symm
                rw [← netI_eq]
                exact netI_lk hjk (good_ends (by rw [hx]; exact ends_noF (fun h => c0 h.1) (fun h => by have h1 := h.1; have h2 := h.2; omega)))
              · try simp only [decide_eq_true_eq, decide_eq_false_iff_not, Bool.and_eq_true, Bool.and_eq_false_imp, Bool.or_eq_true, Bool.or_eq_false_iff, Bool.not_eq_true', Bool.not_eq_false', bne_iff_ne, beq_iff_eq, bne_eq_false_iff_eq, beq_eq_false_iff_ne, ne_eq, Int.ofNat_lt, Int.not_lt, Int.not_le, Int.ofNat_le, Nat.not_lt, Nat.not_le, gt_iff_lt, ge_iff_le] at h6
                apply G.skip
                refine G.fg [1, 3, 6, 7, 8, 9, 10, 42, 43, 44] (hk := ?_)
                refine G.meet (hvia16 (.inr h6)) ?_
                rw [if_neg c0, Int.add_zero]
            · skip
              have c0 : x.fr ≥ 0 := c1
              have cq : (x.fr == -1) = false := by rw [beq_eq_false_iff_ne]; omega
              refine G.dr mixed tab_ok ok_implIsNetwork [0, 1, 2, 3, 4, 5, 6, 7, 8, 9, 10, 11, 12, 13, 14, 15, 16, 17, 18, 19, 20, 21, 22, 23, 24, 25, 26, 27] (hk := ?_)
              refine G.iffF (h2 := ?_)
              apply G.seq
              refine G.rg tab_ok ok_implIsNetwork (hk := ?_)
              refine G.iffT (h1 := ?_)
              apply G.seq
              refine G.rg tab_ok ok_implIsNetwork (hk := ?_)
              refine G.fin tab_ok (hr := ?_)
              simp only [oneOrTup]
              congr 1
              symm
              rw [← netI_eq]
              exact netI_lk hjk (good_ends (by rw [hx]; exact ends_noF (fun h => c2 h.2.1) (fun h => by have := h.1; omega)))
            · skip
              have c0 : x.fr ≥ 0 := c1
              have c03 : ¬ x.ou ≥ 0 := c3
              have cq : (x.fr == -1) = false := by rw [beq_eq_false_iff_ne]; omega
              refine G.dr mixed tab_ok ok_implIsNetwork [0, 1, 2, 3, 4, 5, 6, 7, 8, 9, 10, 11, 12, 13, 14, 15, 16, 17, 18, 19, 20, 21, 22, 23, 24, 25, 26, 27] (hk := ?_)
              refine G.iffF (h2 := ?_)
              apply G.seq
              refine G.rg tab_ok ok_implIsNetwork (hk := ?_)
              refine G.iffT (h1 := ?_)
              apply G.seq
              refine G.rg tab_ok ok_implIsNetwork (hk := ?_)
              refine G.fin tab_ok (hr := ?_)
              simp only [oneOrTup]
              congr 1
              symm
              rw [← netI_eq]
              exact netI_lk hjk (good_ends (by rw [hx]; exact ends_noF (fun h => c3 h.2.2.1) (fun h => by have := h.1; omega)))
            · skip
              have c0 : x.fr ≥ 0 := c1
              have c03 : x.ou ≥ 0 := c3
              have c5 : x.fr.toNat < ps.length := by omega
              have cq : (x.fr == -1) = false := by rw [beq_eq_false_iff_ne]; omega
              refine G.dr mixed tab_ok ok_implIsNetwork [0, 1, 2, 3, 4, 5, 6, 7, 8, 9, 10, 11, 12, 13, 14, 15, 16, 17, 18, 19, 20, 21, 22, 23, 24, 25, 26, 27] (hk := ?_)
              refine G.iffF (h2 := ?_)
              apply G.seq
              refine G.rg tab_ok ok_implIsNetwork (hk := ?_)
              refine G.iffT (h1 := ?_)
              apply G.seq
              refine G.rg tab_ok ok_implIsNetwork (hk := ?_)
              refine G.fin tab_ok (hr := ?_)
              simp only [oneOrTup]
              congr 1
              symm
              rw [← netI_eq]
              exact netI_lk hjk (good_ends (by rw [hx]; exact ends_noF (fun h => c4 h.2.2.2) (fun h => by have := h.1; omega)))
            · skip
              have c0 : x.fr ≥ 0 := c1
              have c03 : x.ou ≥ 0 := c3
              have c5 : x.fr.toNat < ps.length := by omega
              have hw6 : IntKind.i64.wrap ((gtot endN (ks.take j) : Int) + 1) = (gtot endN (ks.take j) : Int) + 1 := wrap64 (by omega) (by omega)
              refine G.dr mixed tab_ok ok_implIsNetwork [0, 1, 2, 3, 4, 5, 6, 7, 8, 9, 10, 11, 12, 13, 14, 15, 16, 17, 18, 19, 20, 21, 22, 23, 24, 25, 26, 27] (hk := ?_)
              refine G.iffT (h1 := ?_)
              refine G.rg tab_ok ok_implIsNetwork (hk := ?_)
              refine G.fg [1, 3, 6, 7, 8, 9, 10, 42, 43, 44] (hk := ?_)
              refine G.meet (hvia16 (.inl ⟨c1, c2, c3, c4⟩)) ?_
              simp [c0]
          · intro hQ1
            apply G.seq
            apply G.seq
            apply G.viaP (Q := toIn ps x ∨ toOut x) (st' := ⟨[(1, .ptr 0 0 0), (3, .int .i64 (gtot portN ps : Nat)), (6, .int .i64 ((gtot endN (ks.take j) : Int) + (if x.fr ≥ 0 then 1 else 0) + (if x.to ≥ 0 then 1 else 0))), (7, .int .i64 j), (8, .ptr 1 0 0), (9, .bool (x.fr == -1 && x.ou == 0)), (10, .bool (x.to == -1 && x.ip == 0)), (42, .row false 5 (ks.map kv)), (43, .int .i64 ks.length), (44, .int .i64 j)], [some (2, [[.row false 3 (ps.map pv), .row false 5 (ks.map kv)]]), some (5, [[.int .i64 x.fr, .int .i64 x.ou, .int .i64 x.to, .int .i64 x.ip, .row false 1 (x.tk.map iv)]])], 189⟩)
            · intro hvia20
              rcases to_cases ps x with c1 | ⟨c1, c2⟩ | ⟨c1, c2, c3⟩ | ⟨c1, c2, c3, c4⟩ | ⟨c1, c2, c3, c4⟩
              · skip
                have c0 : ¬ x.to ≥ 0 := by omega
                refine G.dr mixed tab_ok ok_implIsNetwork [0, 1, 2, 3, 4, 5, 6, 7, 8, 9, 10, 11, 12, 13, 14, 15, 16, 17, 18, 19, 20, 21, 22, 23, 24, 25, 26, 27] (hk := ?_)
                refine G.iffF (h2 := ?_)
                apply G.seq
                refine G.rg tab_ok ok_implIsNetwork (hk := ?_)
                refine G.fg [1, 3, 6, 7, 8, 9, 10, 42, 43, 44, 128] (hk := ?_)
                refine G.iff (h1 := fun h15 => ?_) (h2 := fun h15 => ?_)
                · try simp only [decide_eq_true_eq, decide_eq_false_iff_not, Bool.and_eq_true, Bool.and_eq_false_imp, Bool.or_eq_true, Bool.or_eq_false_iff, Bool.not_eq_true', Bool.not_eq_false', bne_iff_ne, beq_iff_eq, bne_eq_false_iff_eq, beq_eq_false_iff_ne, ne_eq, Int.ofNat_lt, Int.not_lt, Int.not_le, Int.ofNat_le, Nat.not_lt, Nat.not_le, gt_iff_lt, ge_iff_le] at h15
                  apply G.seq
                  refine G.rg tab_ok ok_implIsNetwork (hk := ?_)
                  refine G.fin tab_ok (hr := ?_)
                  simp only [oneOrTup]
                  congr 1
                  symm
                  rw [← netI_eq]
                  exact netI_lk hjk (good_ends (by rw [hx]; exact ends_noT (fun h => c0 h.1) (fun h => by have h1 := h.1; have h2 := h.2; omega)))
                · try simp only [decide_eq_true_eq, decide_eq_false_iff_not, Bool.and_eq_true, Bool.and_eq_false_imp, Bool.or_eq_true, Bool.or_eq_false_iff, Bool.not_eq_true', Bool.not_eq_false', bne_iff_ne, beq_iff_eq, bne_eq_false_iff_eq, beq_eq_false_iff_ne, ne_eq, Int.ofNat_lt, Int.not_lt, Int.not_le, Int.ofNat_le, Nat.not_lt, Nat.not_le, gt_iff_lt, ge_iff_le] at h15
                  apply G.skip
                  refine G.fg [1, 3, 6, 7, 8, 9, 10, 42, 43, 44] (hk := ?_)
                  refine G.meet (hvia20 (.inr h15)) ?_
                  rw [if_neg c0, Int.add_zero]
              · skip
                have c0 : x.to ≥ 0 := c1
                have cq : (x.to == -1) = false := by rw [beq_eq_false_iff_ne]; omega
                refine G.dr mixed tab_ok ok_implIsNetwork [0, 1, 2, 3, 4, 5, 6, 7, 8, 9, 10, 11, 12, 13, 14, 15, 16, 17, 18, 19, 20, 21, 22, 23, 24, 25, 26, 27] (hk := ?_)
                refine G.iffF (h2 := ?_)
                apply G.seq
                refine G.rg tab_ok ok_implIsNetwork (hk := ?_)
                refine G.iffT (h1 := ?_)
                apply G.seq
                refine G.rg tab_ok ok_implIsNetwork (hk := ?_)
                refine G.fin tab_ok (hr := ?_)
                simp only [oneOrTup]
                congr 1
                symm
                rw [← netI_eq]
                exact netI_lk hjk (good_ends (by rw [hx]; exact ends_noT (fun h => c2 h.2.1) (fun h => by have := h.1; omega)))
              · skip
                have c0 : x.to ≥ 0 := c1
                have c03 : ¬ x.ip ≥ 0 := c3
                have cq : (x.to == -1) = false := by rw [beq_eq_false_iff_ne]; omega
                refine G.dr mixed tab_ok ok_implIsNetwork [0, 1, 2, 3, 4, 5, 6, 7, 8, 9, 10, 11, 12, 13, 14, 15, 16, 17, 18, 19, 20, 21, 22, 23, 24, 25, 26, 27] (hk := ?_)
                refine G.iffF (h2 := ?_)
                apply G.seq
                refine G.rg tab_ok ok_implIsNetwork (hk := ?_)
                refine G.iffT (h1 := ?_)
                apply G.seq
                refine G.rg tab_ok ok_implIsNetwork (hk := ?_)
                refine G.fin tab_ok (hr := ?_)
                simp only [oneOrTup]
                congr 1
                symm
                rw [← netI_eq]
                exact netI_lk hjk (good_ends (by rw [hx]; exact ends_noT (fun h => c3 h.2.2.1) (fun h => by have := h.1; omega)))
              · skip
                have c0 : x.to ≥ 0 := c1
                have c03 : x.ip ≥ 0 := c3
                have c5 : x.to.toNat < ps.length := by omega
                have cq : (x.to == -1) = false := by rw [beq_eq_false_iff_ne]; omega
                refine G.dr mixed tab_ok ok_implIsNetwork [0, 1, 2, 3, 4, 5, 6, 7, 8, 9, 10, 11, 12, 13, 14, 15, 16, 17, 18, 19, 20, 21, 22, 23, 24, 25, 26, 27] (hk := ?_)
                refine G.iffF (h2 := ?_)
                apply G.seq
                refine G.rg tab_ok ok_implIsNetwork (hk := ?_)
                refine G.iffT (h1 := ?_)
                apply G.seq
                refine G.rg tab_ok ok_implIsNetwork (hk := ?_)
                refine G.fin tab_ok (hr := ?_)
                simp only [oneOrTup]
                congr 1
                symm
                rw [← netI_eq]
                exact netI_lk hjk (good_ends (by rw [hx]; exact ends_noT (fun h => c4 h.2.2.2) (fun h => by have := h.1; omega)))
              · skip
                have c0 : x.to ≥ 0 := c1
                have c03 : x.ip ≥ 0 := c3
                have c5 : x.to.toNat < ps.length := by omega
                have hw6 : IntKind.i64.wrap ((gtot endN (ks.take j) : Int) + (if x.fr ≥ 0 then 1 else 0) + 1) = (gtot endN (ks.take j) : Int) + (if x.fr ≥ 0 then 1 else 0) + 1 := wrap64 (by omega) (by omega)
                refine G.dr mixed tab_ok ok_implIsNetwork [0, 1, 2, 3, 4, 5, 6, 7, 8, 9, 10, 11, 12, 13, 14, 15, 16, 17, 18, 19, 20, 21, 22, 23, 24, 25, 26, 27] (hk := ?_)
                refine G.iffT (h1 := ?_)
                refine G.rg tab_ok ok_implIsNetwork (hk := ?_)
                refine G.fg [1, 3, 6, 7, 8, 9, 10, 42, 43, 44] (hk := ?_)
                refine G.meet (hvia20 (.inl ⟨c1, c2, c3, c4⟩)) ?_
                simp [c0]
            · intro hQ2
              apply G.seq
              apply G.seq
              refine G.fg [1, 3, 6, 7, 8, 9, 10, 42, 43, 44] (hk := ?_)
              refine G.rg tab_ok ok_implIsNetwork (hk := ?_)
              refine G.fg [1, 3, 6, 7, 8, 42, 43, 44, 138] (hk := ?_)
              refine G.iff (h1 := fun h23 => ?_) (h2 := fun h23 => ?_)
              · try simp only [decide_eq_true_eq, decide_eq_false_iff_not, Bool.and_eq_true, Bool.and_eq_false_imp, Bool.or_eq_true, Bool.or_eq_false_iff, Bool.not_eq_true', Bool.not_eq_false', bne_iff_ne, beq_iff_eq, bne_eq_false_iff_eq, beq_eq_false_iff_ne, ne_eq, Int.ofNat_lt, Int.not_lt, Int.not_le, Int.ofNat_le, Nat.not_lt, Nat.not_le, gt_iff_lt, ge_iff_le] at h23
                apply G.seq
                refine G.rg tab_ok ok_implIsNetwork (hk := ?_)
                refine G.fin tab_ok (hr := ?_)
                have hb : linkOk ps x = false := by
                  rcases h23 with h | h
                  · exact link_no (.inl (by rw [Bool.eq_false_iff]; intro hh; exact (ends_iff.1 hh).2.2 ⟨⟨h.1.1, h.1.2⟩, h.2.1, h.2.2⟩))
                  · exact link_no (.inr h)
                simp only [oneOrTup]
                congr 1
                symm
                rw [← netI_eq]
                exact netI_lk hjk (good_link (by rw [hx]; exact hb))
              · try simp only [decide_eq_true_eq, decide_eq_false_iff_not, Bool.and_eq_true, Bool.and_eq_false_imp, Bool.or_eq_true, Bool.or_eq_false_iff, Bool.not_eq_true', Bool.not_eq_false', bne_iff_ne, beq_iff_eq, bne_eq_false_iff_eq, beq_eq_false_iff_ne, ne_eq, Int.ofNat_lt, Int.not_lt, Int.not_le, Int.ofNat_le, Nat.not_lt, Nat.not_le, gt_iff_lt, ge_iff_le] at h23
                apply G.skip
                apply G.seq
                have hlk : linkOk ps (ks.getD j default) = true := by
                  rw [hx]
                  refine link_yes (fun h => ?_)
                  have he : endsOk ps x = true := ends_iff.2 ⟨hQ1, hQ2, fun hh => h23.1 ⟨hh.1.1, hh.1.2⟩ hh.2.1 hh.2.2⟩
                  rw [he, h23.2] at h
                  simp at h
                have hmj : min j ks.length = j := by omega
                have htk : List.take j (ks.map kv) = (ks.take j).map kv := (List.map_take ..).symm
                have hgd : ∀ q, q < j → (ks.take j).getD q default = ks.getD q default := fun q hq => by simp [List.getD_eq_getElem?_getD, List.getElem?_take, hq]
                refine G.rg tab_ok ok_implIsNetwork (hk := ?_)
                apply G.block
                refine G.cn [1, 3, 6, 8, 42, 43, 44, 142, 143, 144] [0, 1] (h := ?_)
                refine G.loopX (fun q : Nat => ⟨[(1, .ptr 0 0 0), (3, .int .i64 (gtot portN ps : Nat)), (6, .int .i64 ((gtot endN (ks.take j) : Int) + (if x.fr ≥ 0 then 1 else 0) + (if x.to ≥ 0 then 1 else 0))), (8, .ptr 1 0 0), (42, .row false 5 (ks.map kv)), (43, .int .i64 ks.length), (44, .int .i64 j), (142, .row false 5 ((ks.take j).map kv)), (143, .int .i64 j), (144, .int .i64 q)], [some (2, [[.row false 3 (ps.map pv), .row false 5 (ks.map kv)]]), some (5, [[.int .i64 x.fr, .int .i64 x.ou, .int .i64 x.to, .int .i64 x.ip, .row false 1 (x.tk.map iv)]])], 189⟩) (fun q => q ≤ j ∧ ∀ m < q, clash x (ks.getD m default) = false) (fun q => j - q) (0) (⟨Nat.zero_le _, by omega⟩) (by simp) ?_
                intro q hq J hJ
                obtain ⟨hq, hcl⟩ := hq
                have hwq : IntKind.i64.wrap ((q : Int) + 1) = (q : Int) + 1 := wrap64 (by omega) (by omega)
                apply G.seq
                refine G.rg tab_ok ok_implIsNetwork (hk := ?_)
                apply G.seq
                refine G.iff (h1 := fun h24 => ?_) (h2 := fun h24 => ?_)
                · try simp only [decide_eq_true_eq, decide_eq_false_iff_not, Bool.and_eq_true, Bool.and_eq_false_imp, Bool.or_eq_true, Bool.or_eq_false_iff, Bool.not_eq_true', Bool.not_eq_false', bne_iff_ne, beq_iff_eq, bne_eq_false_iff_eq, beq_eq_false_iff_ne, ne_eq, Int.ofNat_lt, Int.not_lt, Int.not_le, Int.ofNat_le, Nat.not_lt, Nat.not_le, gt_iff_lt, ge_iff_le] at h24
                  apply G.skip
                  apply G.seq
                  apply G.block
                  apply G.seq
                  obtain ⟨y, hy⟩ : ∃ y, ks.getD q default = y := ⟨_, rfl⟩
                  have hgy : (ks.take j).getD q default = y := by rw [hgd q (by omega), hy]
                  refine G.rg tab_ok ok_implIsNetwork (hk := ?_)
                  apply G.seq
                  refine G.rgN 11 tab_ok ok_implIsNetwork (hk := ?_)
                  refine G.rgM 7 tab_ok ok_implIsNetwork (hk := ?_)
                  refine G.rgM 10 tab_ok ok_implIsNetwork (hk := ?_)
                  refine G.rgC tab_ok ok_implIsNetwork (hk := ?_)
                  refine G.fg [1, 3, 6, 8, 42, 43, 44, 142, 143, 144, 183] (hk := ?_)
                  refine G.iff (h1 := fun h25 => ?_) (h2 := fun h25 => ?_)
                  · try simp only [decide_eq_true_eq, decide_eq_false_iff_not, Bool.and_eq_true, Bool.and_eq_false_imp, Bool.or_eq_true, Bool.or_eq_false_iff, Bool.not_eq_true', Bool.not_eq_false', bne_iff_ne, beq_iff_eq, bne_eq_false_iff_eq, beq_eq_false_iff_ne, ne_eq, Int.ofNat_lt, Int.not_lt, Int.not_le, Int.ofNat_le, Nat.not_lt, Nat.not_le, gt_iff_lt, ge_iff_le] at h25
                    apply G.seq
                    refine G.rg tab_ok ok_implIsNetwork (hk := ?_)
                    refine G.fin tab_ok (hr := ?_)
                    simp only [oneOrTup]
                    congr 1
                    symm
                    rw [← netI_eq]
                    exact netI_lk hjk (good_clash (q := q) (by omega) (clash_yes hx hy h25))
                  · try simp only [decide_eq_true_eq, decide_eq_false_iff_not, Bool.and_eq_true, Bool.and_eq_false_imp, Bool.or_eq_true, Bool.or_eq_false_iff, Bool.not_eq_true', Bool.not_eq_false', bne_iff_ne, beq_iff_eq, bne_eq_false_iff_eq, beq_eq_false_iff_ne, ne_eq, Int.ofNat_lt, Int.not_lt, Int.not_le, Int.ofNat_le, Nat.not_lt, Nat.not_le, gt_iff_lt, ge_iff_le] at h25
                    apply G.skip
                    apply G.blk
                    refine G.rg tab_ok ok_implIsNetwork (hk := ?_)
                    refine G.cn [1, 3, 6, 8, 42, 43, 44, 142, 143, 144] [0, 1] (h := ?_)
                    exact G.upto (hJ (q + 1) ⟨by omega, up_step hcl (clash_no hy h25)⟩ (by omega)) (by simp)
                · try simp only [decide_eq_true_eq, decide_eq_false_iff_not, Bool.and_eq_true, Bool.and_eq_false_imp, Bool.or_eq_true, Bool.or_eq_false_iff, Bool.not_eq_true', Bool.not_eq_false', bne_iff_ne, beq_iff_eq, bne_eq_false_iff_eq, beq_eq_false_iff_ne, ne_eq, Int.ofNat_lt, Int.not_lt, Int.not_le, Int.ofNat_le, Nat.not_lt, Nat.not_le, gt_iff_lt, ge_iff_le] at h24
                  refine G.exit rfl ?_
                  apply G.blk
                  refine G.rg tab_ok ok_implIsNetwork (hk := ?_)
                  refine G.cn [1, 3, 6, 42, 43, 44] [0] (h := ?_)
                  have hes := gtot_succ (f := endN) hjk
                  have hen2 : (endN x : Int) = (if x.fr ≥ 0 then 1 else 0) + (if x.to ≥ 0 then 1 else 0) := by unfold endN; split <;> split <;> rfl
                  rw [hx] at hes
                  have he3 : (gtot endN (ks.take (j + 1)) : Int) = (gtot endN (ks.take j) : Int) + (if x.fr ≥ 0 then 1 else 0) + (if x.to ≥ 0 then 1 else 0) := by omega
                  exact G.upto (hJ2 (j + 1) ⟨by omega, up_step hall (good_yes hlk (fun q hq => by rw [hx]; exact hcl q (by omega)))⟩ (by omega)) (by rw [he3]; simp)
      · try simp only [decide_eq_true_eq, decide_eq_false_iff_not, Bool.and_eq_true, Bool.and_eq_false_imp, Bool.or_eq_true, Bool.or_eq_false_iff, Bool.not_eq_true', Bool.not_eq_false', bne_iff_ne, beq_iff_eq, bne_eq_false_iff_eq, beq_eq_false_iff_ne, ne_eq, Int.ofNat_lt, Int.not_lt, Int.not_le, Int.ofNat_le, Nat.not_lt, Nat.not_le, gt_iff_lt, ge_iff_le] at h4
        refine G.exit rfl ?_
        apply G.seq
        refine G.rg tab_ok ok_implIsNetwork (hk := ?_)
        refine G.fin tab_ok (hr := ?_)
        obtain rfl : j = ks.length := by omega
        rw [List.take_length]
        simp only [oneOrTup]
        congr 1
        symm
        rw [← netI_eq]
        exact netI_end hs12 hpa (fun k hk => hall k (by omega))
def r_implIsNetwork (xs0 : List A) (rr : A) : Prop := ∃ (ps : List PG) (ks : List LK), (NW ps) ∧ (KW ks) ∧ (ps.length < 3518437208781) ∧ (ks.length < 2513169434844) ∧ xs0 = [.agg [.row false 3 (ps.map pv), .row false 5 (ks.map kv)]] ∧ rr = .bool (netOk ps ks)
noncomputable def q_implIsNetwork : List A → Option A := kgr r_implIsNetwork
theorem k_implIsNetwork : KOk Try.prog (74, q_implIsNetwork) := kgr_ok (enters_of Try.func74 rfl rfl) (by rintro xs0 rr ⟨ps, ks, hc1, hc2, hc3, hc4, rfl, rfl⟩; exact implIsNetwork_ac ps ks hc1 hc2 hc3 hc4)
theorem e_implIsNetwork : ∀ (ps : List PG) (ks : List LK), (NW ps) → (KW ks) → (ps.length < 3518437208781) → (ks.length < 2513169434844) → q_implIsNetwork [.agg [.row false 3 (ps.map pv), .row false 5 (ks.map kv)]] = some (.bool (netOk ps ks)) := by
  intro ps ks hc1 hc2 hc3 hc4
  refine kgr_eq (fun xs0 rr r2 h h2 => ?_) ⟨ps, ks, hc1, hc2, hc3, hc4, rfl, rfl⟩
  obtain ⟨ps1, ks1, _, _, _, _, e1, rfl⟩ := h; obtain ⟨ps2, ks2, _, _, _, _, e2, rfl⟩ := h2
  rw [e1] at e2
  simp only [List.cons.injEq, A.int.injEq, A.bool.injEq, A.agg.injEq, A.row.injEq, pv_inj, kv_inj, true_and, and_true] at e2
  obtain ⟨e3, e4⟩ := e2
  subst e3 e4
  rfl

end Go.Proofs.Yticgaflgbljhlaa.Ab
