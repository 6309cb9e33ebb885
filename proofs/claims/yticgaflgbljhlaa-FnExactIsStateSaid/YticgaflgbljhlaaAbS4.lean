/- Walks of functions of the program: what each answers, for all arguments that meet its conditions. -/
import Derived.Test.YticgaflgbljhlaaAbH2
import Derived.Test.YticgaflgbljhlaaAbN6
import Derived.Test.YticgaflgbljhlaaAbAutoH
import Derived.Test.YticgaflgbljhlaaAbState
namespace Go.Proofs.Yticgaflgbljhlaa.Ab
open Go
set_option linter.unusedVariables false
set_option linter.unusedSimpArgs false
set_option maxHeartbeats 4000000

theorem ok_implIsState : Kn.ok Try.prog (kof [(74, q_implIsNetwork), (75, q_isActor0), (76, q_implIsStream), (77, q_implIsPrefix), (78, q_eqSl)]) := kof_cons k_implIsNetwork (kof_cons k_isActor0 (kof_cons k_implIsStream (kof_cons k_implIsPrefix (kof_cons k_eqSl ((kof_nil _))))))
theorem implIsState_ac (ps : List PG) (ks : List LK) (xs : List AT) (qs : List (List Int)) (hs : List (List Int)) (t : Int) (hc1 : NW ps) (hc2 : KW ks) (hc3 : ps.length < 3518437208781) (hc4 : ks.length < 2513169434844) (hc5 : XW xs) (hc6 : xs.length < 4398046511104) (hc7 : qs.length < 5864062014805) (hc8 : LW qs) (hc9 : hs.length < 5864062014805) (hc10 : LW hs) : AC Try.prog 20 [.agg [.row false 3 (ps.map pv), .row false 5 (ks.map kv)], .agg [.row false 2 (xs.map av), .row false 1 (qs.map ivL), .row false 1 (hs.map ivL), .int .i64 t]] (.bool (stOk ps ks xs qs hs t)) := by
  have e_implIsNetwork := e_implIsNetwork
  have e_isActor0 := e_isActor0
  have e_implIsStream := e_implIsStream
  have e_implIsPrefix := e_implIsPrefix
  have e_eqSl := e_eqSl
  have hivl := ivL_eq
  have hft : (false == true) = false := rfl
  have htf : (true == false) = false := rfl
  refine AC.of tab_ok Try.func20 rfl (Nat.le_of_ble_eq_true rfl) fun w0 S0 => ?_
  change G _ _ ⟨[(0, .agg [.row false 3 (ps.map pv), .row false 5 (ks.map kv)]), (1, .agg [.row false 2 (xs.map av), .row false 1 (qs.map ivL), .row false 1 (hs.map ivL), .int .i64 t])], [], 139⟩
  apply G.seq
  refine G.rg tab_ok ok_implIsState (hk := ?_)
  apply G.seq
  apply G.seq
  rcases (show netOk ps ks = false ∨ (netOk ps ks = true ∧ ((xs.length : Int) == (ps.length : Int)) = false) ∨ (netOk ps ks = true ∧ ((xs.length : Int) == (ps.length : Int)) = true ∧ ((qs.length : Int) == (ks.length : Int)) = false) ∨ (netOk ps ks = true ∧ ((xs.length : Int) == (ps.length : Int)) = true ∧ ((qs.length : Int) == (ks.length : Int)) = true ∧ ((hs.length : Int) == (ks.length : Int)) = false) ∨ (netOk ps ks = true ∧ ((xs.length : Int) == (ps.length : Int)) = true ∧ ((qs.length : Int) == (ks.length : Int)) = true ∧ ((hs.length : Int) == (ks.length : Int)) = true ∧ t < 0) ∨ (netOk ps ks = true ∧ ((xs.length : Int) == (ps.length : Int)) = true ∧ ((qs.length : Int) == (ks.length : Int)) = true ∧ ((hs.length : Int) == (ks.length : Int)) = true ∧ ¬ t < 0) by cases netOk ps ks <;> cases ((xs.length : Int) == (ps.length : Int)) <;> cases ((qs.length : Int) == (ks.length : Int)) <;> cases ((hs.length : Int) == (ks.length : Int)) <;> simp <;> omega) with c1 | ⟨c1, c2⟩ | ⟨c1, c2, c3⟩ | ⟨c1, c2, c3, c4⟩ | ⟨c1, c2, c3, c4, c5⟩ | ⟨c1, c2, c3, c4, c5⟩
  · skip
    refine G.rgN 4 tab_ok ok_implIsState (hk := ?_)
    refine G.rdC tab_ok ok_implIsState (hk := ?_)
    refine G.iffT (h1 := ?_)
    apply G.seq
    refine G.fg [] (hk := ?_)
    refine G.rg tab_ok ok_implIsState (hk := ?_)
    refine G.fin tab_ok (hr := ?_)
    simp only [oneOrTup]
    congr 1
    exact (stOk_big (by unfold stBig; simp only [c1, Bool.false_and, Bool.and_false])).symm
  · skip
    refine G.rgN 4 tab_ok ok_implIsState (hk := ?_)
    refine G.rdC tab_ok ok_implIsState (hk := ?_)
    refine G.iffT (h1 := ?_)
    apply G.seq
    refine G.fg [] (hk := ?_)
    refine G.rg tab_ok ok_implIsState (hk := ?_)
    refine G.fin tab_ok (hr := ?_)
    simp only [oneOrTup]
    congr 1
    exact (stOk_big (by unfold stBig; simp only [c2, Bool.false_and, Bool.and_false])).symm
  · skip
    refine G.rgN 4 tab_ok ok_implIsState (hk := ?_)
    refine G.rdC tab_ok ok_implIsState (hk := ?_)
    refine G.iffT (h1 := ?_)
    apply G.seq
    refine G.fg [] (hk := ?_)
    refine G.rg tab_ok ok_implIsState (hk := ?_)
    refine G.fin tab_ok (hr := ?_)
    simp only [oneOrTup]
    congr 1
    exact (stOk_big (by unfold stBig; simp only [c3, Bool.false_and, Bool.and_false])).symm
  · skip
    refine G.rgN 4 tab_ok ok_implIsState (hk := ?_)
    refine G.rdC tab_ok ok_implIsState (hk := ?_)
    refine G.iffT (h1 := ?_)
    apply G.seq
    refine G.fg [] (hk := ?_)
    refine G.rg tab_ok ok_implIsState (hk := ?_)
    refine G.fin tab_ok (hr := ?_)
    simp only [oneOrTup]
    congr 1
    exact (stOk_big (by unfold stBig; simp only [c4, Bool.false_and, Bool.and_false])).symm
  · skip
    refine G.rgN 4 tab_ok ok_implIsState (hk := ?_)
    refine G.rdC tab_ok ok_implIsState (hk := ?_)
    refine G.iffT (h1 := ?_)
    apply G.seq
    refine G.fg [] (hk := ?_)
    refine G.rg tab_ok ok_implIsState (hk := ?_)
    refine G.fin tab_ok (hr := ?_)
    simp only [oneOrTup]
    congr 1
    exact (stOk_big (by rw [Bool.eq_false_iff]; intro hh; have := stBig_w hh; omega)).symm
  · skip
    refine G.rgN 4 tab_ok ok_implIsState (hk := ?_)
    refine G.rdC tab_ok ok_implIsState (hk := ?_)
    refine G.fg [2, 3, 50, 59, 60, 61, 62, 63, 64, 65, 76, 77, 78, 79, 80, 81, 82, 83, 84, 85] (hk := ?_)
    refine G.iff (h1 := fun h6 => ?_) (h2 := fun h6 => ?_)
    · try simp only [decide_eq_true_eq, decide_eq_false_iff_not, Bool.and_eq_true, Bool.and_eq_false_imp, Bool.or_eq_true, Bool.or_eq_false_iff, Bool.not_eq_true', Bool.not_eq_false', bne_iff_ne, beq_iff_eq, bne_eq_false_iff_eq, beq_eq_false_iff_ne, ne_eq, Int.ofNat_lt, Int.not_lt, Int.not_le, Int.ofNat_le, Nat.not_lt, Nat.not_le, gt_iff_lt, ge_iff_le] at h6
      apply G.seq
      refine G.rg tab_ok ok_implIsState (hk := ?_)
      refine G.fin tab_ok (hr := ?_)
      simp only [oneOrTup]
      congr 1
      exact (stOk_big (by rw [Bool.eq_false_iff]; intro hh; have := stBig_w hh; omega)).symm
    · try simp only [decide_eq_true_eq, decide_eq_false_iff_not, Bool.and_eq_true, Bool.and_eq_false_imp, Bool.or_eq_true, Bool.or_eq_false_iff, Bool.not_eq_true', Bool.not_eq_false', bne_iff_ne, beq_iff_eq, bne_eq_false_iff_eq, beq_eq_false_iff_ne, ne_eq, Int.ofNat_lt, Int.not_lt, Int.not_le, Int.ofNat_le, Nat.not_lt, Nat.not_le, gt_iff_lt, ge_iff_le] at h6
      apply G.skip
      apply G.seq
      apply G.seq
      have hin : inR t 0 20000 = true := by simp only [inR, Bool.and_eq_true, decide_eq_true_eq]; omega
      have hbig : stBig ps ks xs qs hs t = true := by unfold stBig; simp only [c1, c2, c3, c4, hin, Bool.and_self]
      clear c1 c2 c3 c4
      obtain ⟨w0, w1, w2, w3, w4, w5⟩ := stBig_w hbig
      have hp12 := (netOk_w w0).pl
      have hk30 := (netOk_w w0).kl
      have e1 : xs.length ≤ ps.length := by omega
      have e2 : ps.length ≤ xs.length := by omega
      have e3 : qs.length ≤ ks.length := by omega
      have e4 : ks.length ≤ qs.length := by omega
      have e5 : hs.length ≤ ks.length := by omega
      have e6 : ks.length ≤ hs.length := by omega
      have hnw := netOk_w w0
      clear w1 w2 w3
      refine G.rg tab_ok ok_implIsState (hk := ?_)
      apply G.block
      refine G.cn [2, 3, 52, 53, 54] [0, 1] (h := ?_)
      refine G.loopX (fun j : Nat => ⟨[(2, .ptr 0 0 0), (3, .ptr 1 0 0), (52, .row false 3 (ps.map pv)), (53, .int .i64 ps.length), (54, .int .i64 j)], [some (2, [[.row false 3 (ps.map pv), .row false 5 (ks.map kv)]]), some (4, [[.row false 2 (xs.map av), .row false 1 (qs.map ivL), .row false 1 (hs.map ivL), .int .i64 t]])], 139⟩) (fun j => j ≤ ps.length ∧ ∀ k < j, actAt ps xs k = true) (fun j => ps.length - j) (0) (⟨Nat.zero_le _, by omega⟩) (by simp) ?_
      intro j hj J hJ
      obtain ⟨hj, hall⟩ := hj
      have hw : IntKind.i64.wrap ((j : Int) + 1) = (j : Int) + 1 := wrap64 (by omega) (by omega)
      apply G.seq
      refine G.rg tab_ok ok_implIsState (hk := ?_)
      apply G.seq
      refine G.iff (h1 := fun h7 => ?_) (h2 := fun h7 => ?_)
      · try simp only [decide_eq_true_eq, decide_eq_false_iff_not, Bool.and_eq_true, Bool.and_eq_false_imp, Bool.or_eq_true, Bool.or_eq_false_iff, Bool.not_eq_true', Bool.not_eq_false', bne_iff_ne, beq_iff_eq, bne_eq_false_iff_eq, beq_eq_false_iff_ne, ne_eq, Int.ofNat_lt, Int.not_lt, Int.not_le, Int.ofNat_le, Nat.not_lt, Nat.not_le, gt_iff_lt, ge_iff_le] at h7
        apply G.skip
        apply G.seq
        apply G.block
        apply G.seq
        refine G.rg tab_ok ok_implIsState (hk := ?_)
        apply G.seq
        have hjp : j < ps.length := by omega
        have hjx : j < xs.length := by omega
        have hla : (ps.getD j default).l.length < 4398046511104 := hc1 _ (getD_mem0 hjp)
        have hlx : (xs.getD j default).rs.length < 17592186044416 := hc5 _ (getD_mem0 hjx)
        refine G.dr mixed tab_ok ok_implIsState [0, 1, 2, 3, 4, 5, 6, 7] (hk := ?_)
        refine G.fg [2, 3, 52, 53, 54, 66] (hk := ?_)
        refine G.iff (h1 := fun h8 => ?_) (h2 := fun h8 => ?_)
        · try simp only [decide_eq_true_eq, decide_eq_false_iff_not, Bool.and_eq_true, Bool.and_eq_false_imp, Bool.or_eq_true, Bool.or_eq_false_iff, Bool.not_eq_true', Bool.not_eq_false', bne_iff_ne, beq_iff_eq, bne_eq_false_iff_eq, beq_eq_false_iff_ne, ne_eq, Int.ofNat_lt, Int.not_lt, Int.not_le, Int.ofNat_le, Nat.not_lt, Nat.not_le, gt_iff_lt, ge_iff_le] at h8
          apply G.seq
          refine G.rg tab_ok ok_implIsState (hk := ?_)
          refine G.fin tab_ok (hr := ?_)
          simp only [oneOrTup]
          congr 1
          exact (stOk_act hjp h8).symm
        · try simp only [decide_eq_true_eq, decide_eq_false_iff_not, Bool.and_eq_true, Bool.and_eq_false_imp, Bool.or_eq_true, Bool.or_eq_false_iff, Bool.not_eq_true', Bool.not_eq_false', bne_iff_ne, beq_iff_eq, bne_eq_false_iff_eq, beq_eq_false_iff_ne, ne_eq, Int.ofNat_lt, Int.not_lt, Int.not_le, Int.ofNat_le, Nat.not_lt, Nat.not_le, gt_iff_lt, ge_iff_le] at h8
          apply G.skip
          apply G.blk
          refine G.rg tab_ok ok_implIsState (hk := ?_)
          refine G.cn [2, 3, 52, 53, 54] [0, 1] (h := ?_)
          exact G.upto (hJ (j + 1) ⟨by omega, up_step hall h8⟩ (by omega)) (by simp)
      · try simp only [decide_eq_true_eq, decide_eq_false_iff_not, Bool.and_eq_true, Bool.and_eq_false_imp, Bool.or_eq_true, Bool.or_eq_false_iff, Bool.not_eq_true', Bool.not_eq_false', bne_iff_ne, beq_iff_eq, bne_eq_false_iff_eq, beq_eq_false_iff_ne, ne_eq, Int.ofNat_lt, Int.not_lt, Int.not_le, Int.ofNat_le, Nat.not_lt, Nat.not_le, gt_iff_lt, ge_iff_le] at h7
        refine G.exit rfl ?_
        apply G.seq
        apply G.seq
        refine G.rg tab_ok ok_implIsState (hk := ?_)
        apply G.block
        have hact : ∀ k < ps.length, actAt ps xs k = true := fun k hk => hall k (by omega)
        clear hall hJ hj
        refine G.nm [3, 69, 70, 71] (h := ?_)
        refine G.loopX (fun j : Nat => ⟨[(3, .ptr 0 0 0), (69, .row false 5 (ks.map kv)), (70, .int .i64 ks.length), (71, .int .i64 j)], [some (4, [[.row false 2 (xs.map av), .row false 1 (qs.map ivL), .row false 1 (hs.map ivL), .int .i64 t]])], 139⟩) (fun j => j ≤ ks.length ∧ ∀ k < j, linkAt ks qs hs k = true) (fun j => ks.length - j) (0) (⟨Nat.zero_le _, by omega⟩) (by simp) ?_
        intro j hj J hJ
        obtain ⟨hj, hall⟩ := hj
        have hw : IntKind.i64.wrap ((j : Int) + 1) = (j : Int) + 1 := wrap64 (by omega) (by omega)
        apply G.seq
        refine G.rg tab_ok ok_implIsState (hk := ?_)
        apply G.seq
        refine G.iff (h1 := fun h9 => ?_) (h2 := fun h9 => ?_)
        · try simp only [decide_eq_true_eq, decide_eq_false_iff_not, Bool.and_eq_true, Bool.and_eq_false_imp, Bool.or_eq_true, Bool.or_eq_false_iff, Bool.not_eq_true', Bool.not_eq_false', bne_iff_ne, beq_iff_eq, bne_eq_false_iff_eq, beq_eq_false_iff_ne, ne_eq, Int.ofNat_lt, Int.not_lt, Int.not_le, Int.ofNat_le, Nat.not_lt, Nat.not_le, gt_iff_lt, ge_iff_le] at h9
          apply G.skip
          apply G.seq
          apply G.block
          apply G.seq
          have hjk : j < ks.length := by omega
          have hjq : j < qs.length := by omega
          have hjh : j < hs.length := by omega
          have hlk : (ks.getD j default).tk.length < 17592186044416 := hc2 _ (getD_mem0 hjk)
          have hlq : (qs.getD j default).length < 17592186044416 := hc8 _ (getD_mem0 hjq)
          have hlh : (hs.getD j default).length < 17592186044416 := hc10 _ (getD_mem0 hjh)
          obtain ⟨x, hx⟩ : ∃ x, ks.getD j default = x := ⟨_, rfl⟩
          obtain ⟨q, hq⟩ : ∃ x, qs.getD j default = x := ⟨_, rfl⟩
          obtain ⟨h, hh⟩ : ∃ x, hs.getD j default = x := ⟨_, rfl⟩
          rw [hx] at hlk
          rw [hq] at hlq
          rw [hh] at hlh
          have hstr := lk_str w0 hjk
          rw [hx] at hstr
          refine G.rg tab_ok ok_implIsState (hk := ?_)
          apply G.seq
          refine G.dr mixed tab_ok ok_implIsState [0, 1, 2, 3, 4, 5, 6, 7, 8, 9, 10, 11] (hk := ?_)
          apply G.seq
          apply G.seq
          rcases (show strOk q = false ∨ (strOk q = true ∧ pfxB x.tk h = false) ∨ (strOk q = true ∧ pfxB x.tk h = true ∧ ¬ q.length ≤ h.length) ∨ (strOk q = true ∧ pfxB x.tk h = true ∧ q.length ≤ h.length) by cases strOk q <;> cases pfxB x.tk h <;> simp; omega) with d1 | ⟨d1, d2⟩ | ⟨d1, d2, d3⟩ | ⟨d1, d2, d3⟩
          · skip
            refine G.fg [3, 8, 9, 10, 69, 70, 71] (hk := ?_)
            refine G.rgN 4 tab_ok ok_implIsState (hk := ?_)
            refine G.rdN 8 tab_ok ok_implIsState (hk := ?_)
            refine G.rdN 8 tab_ok ok_implIsState (hk := ?_)
            refine G.rdC tab_ok ok_implIsState (hk := ?_)
            refine G.iffT (h1 := ?_)
            apply G.seq
            refine G.fg [] (hk := ?_)
            refine G.rg tab_ok ok_implIsState (hk := ?_)
            refine G.fin tab_ok (hr := ?_)
            simp only [oneOrTup]
            congr 1
            exact (stOk_link hjk (by show linkSt _ _ _ = _; rw [hx, hq, hh]; exact link_q d1)).symm
          · skip
            refine G.fg [3, 8, 9, 10, 69, 70, 71] (hk := ?_)
            refine G.rgN 4 tab_ok ok_implIsState (hk := ?_)
            refine G.rdN 8 tab_ok ok_implIsState (hk := ?_)
            refine G.rdN 8 tab_ok ok_implIsState (hk := ?_)
            refine G.rdC tab_ok ok_implIsState (hk := ?_)
            refine G.iffT (h1 := ?_)
            apply G.seq
            refine G.fg [] (hk := ?_)
            refine G.rg tab_ok ok_implIsState (hk := ?_)
            refine G.fin tab_ok (hr := ?_)
            simp only [oneOrTup]
            congr 1
            exact (stOk_link hjk (by show linkSt _ _ _ = _; rw [hx, hq, hh]; exact link_pfx hstr d2)).symm
          · skip
            have d4 : (q.length : Int) > (h.length : Int) := by omega
            refine G.fg [3, 8, 9, 10, 69, 70, 71] (hk := ?_)
            refine G.rgN 4 tab_ok ok_implIsState (hk := ?_)
            refine G.rdN 8 tab_ok ok_implIsState (hk := ?_)
            refine G.rdN 8 tab_ok ok_implIsState (hk := ?_)
            refine G.rdC tab_ok ok_implIsState (hk := ?_)
            refine G.iffT (h1 := ?_)
            apply G.seq
            refine G.fg [] (hk := ?_)
            refine G.rg tab_ok ok_implIsState (hk := ?_)
            refine G.fin tab_ok (hr := ?_)
            simp only [oneOrTup]
            congr 1
            exact (stOk_link hjk (by show linkSt _ _ _ = _; rw [hx, hq, hh]; exact link_long d3)).symm
          · skip
            have d4 : ¬ (q.length : Int) > (h.length : Int) := by omega
            have hw0 : IntKind.i64.wrap ((h.length : Int) - (q.length : Int)) = ((h.length - q.length : Nat) : Int) := by rw [wrap64 (by omega) (by omega)]; omega
            have d5 : h.length - q.length ≤ h.length := by omega
            have hdr : List.drop (h.length - q.length) (h.map iv) = (h.drop (h.length - q.length)).map iv := (List.map_drop ..).symm
            have hlt : h.length - (h.length - q.length) < 17592186044416 := by omega
            have hct : List.take h.length (h.map iv) = h.map iv := List.take_of_length_le (by simp)
            refine G.fg [3, 8, 9, 10, 69, 70, 71] (hk := ?_)
            refine G.rgN 4 tab_ok ok_implIsState (hk := ?_)
            refine G.rdN 8 tab_ok ok_implIsState (hk := ?_)
            refine G.rdN 8 tab_ok ok_implIsState (hk := ?_)
            refine G.rdC tab_ok ok_implIsState (hk := ?_)
            refine G.fg [3, 8, 9, 10, 69, 70, 71, 114] (hk := ?_)
            refine G.iff (h1 := fun h13 => ?_) (h2 := fun h13 => ?_)
            · try simp only [decide_eq_true_eq, decide_eq_false_iff_not, Bool.and_eq_true, Bool.and_eq_false_imp, Bool.or_eq_true, Bool.or_eq_false_iff, Bool.not_eq_true', Bool.not_eq_false', bne_iff_ne, beq_iff_eq, bne_eq_false_iff_eq, beq_eq_false_iff_ne, ne_eq, Int.ofNat_lt, Int.not_lt, Int.not_le, Int.ofNat_le, Nat.not_lt, Nat.not_le, gt_iff_lt, ge_iff_le] at h13
              apply G.seq
              refine G.rg tab_ok ok_implIsState (hk := ?_)
              refine G.fin tab_ok (hr := ?_)
              simp only [oneOrTup]
              congr 1
              exact (stOk_link hjk (by show linkSt _ _ _ = _; rw [hx, hq, hh]; exact link_end d3 h13)).symm
            · try simp only [decide_eq_true_eq, decide_eq_false_iff_not, Bool.and_eq_true, Bool.and_eq_false_imp, Bool.or_eq_true, Bool.or_eq_false_iff, Bool.not_eq_true', Bool.not_eq_false', bne_iff_ne, beq_iff_eq, bne_eq_false_iff_eq, beq_eq_false_iff_ne, ne_eq, Int.ofNat_lt, Int.not_lt, Int.not_le, Int.ofNat_le, Nat.not_lt, Nat.not_le, gt_iff_lt, ge_iff_le] at h13
              apply G.skip
              apply G.seq
              have hE : endB q h = true := by rw [← endB_eq d3, decide_eq_true_eq]; exact h13
              clear h13
              refine G.rg tab_ok ok_implIsState (hk := ?_)
              refine G.fg [3, 69, 70, 71, 137] (hk := ?_)
              refine G.iff (h1 := fun h14 => ?_) (h2 := fun h14 => ?_)
              · try simp only [decide_eq_true_eq, decide_eq_false_iff_not, Bool.and_eq_true, Bool.and_eq_false_imp, Bool.or_eq_true, Bool.or_eq_false_iff, Bool.not_eq_true', Bool.not_eq_false', bne_iff_ne, beq_iff_eq, bne_eq_false_iff_eq, beq_eq_false_iff_ne, ne_eq, Int.ofNat_lt, Int.not_lt, Int.not_le, Int.ofNat_le, Nat.not_lt, Nat.not_le, gt_iff_lt, ge_iff_le] at h14
                apply G.seq
                refine G.rg tab_ok ok_implIsState (hk := ?_)
                refine G.fin tab_ok (hr := ?_)
                simp only [oneOrTup]
                congr 1
                exact (stOk_link hjk (by show linkSt _ _ _ = _; rw [hx, hq, hh]; exact link_noC h14)).symm
              · try simp only [decide_eq_true_eq, decide_eq_false_iff_not, Bool.and_eq_true, Bool.and_eq_false_imp, Bool.or_eq_true, Bool.or_eq_false_iff, Bool.not_eq_true', Bool.not_eq_false', bne_iff_ne, beq_iff_eq, bne_eq_false_iff_eq, beq_eq_false_iff_ne, ne_eq, Int.ofNat_lt, Int.not_lt, Int.not_le, Int.ofNat_le, Nat.not_lt, Nat.not_le, gt_iff_lt, ge_iff_le] at h14
                apply G.skip
                apply G.blk
                refine G.rg tab_ok ok_implIsState (hk := ?_)
                refine G.nm [3, 69, 70, 71] (h := ?_)
                exact G.upto (hJ (j + 1) ⟨by omega, up_step hall (by show linkSt _ _ _ = _; rw [hx, hq, hh]; exact link_yes3 d1 d2 (by omega) hE h14)⟩ (by omega)) (by simp)
        · try simp only [decide_eq_true_eq, decide_eq_false_iff_not, Bool.and_eq_true, Bool.and_eq_false_imp, Bool.or_eq_true, Bool.or_eq_false_iff, Bool.not_eq_true', Bool.not_eq_false', bne_iff_ne, beq_iff_eq, bne_eq_false_iff_eq, beq_eq_false_iff_ne, ne_eq, Int.ofNat_lt, Int.not_lt, Int.not_le, Int.ofNat_le, Nat.not_lt, Nat.not_le, gt_iff_lt, ge_iff_le] at h9
          refine G.exit rfl ?_
          apply G.seq
          refine G.rg tab_ok ok_implIsState (hk := ?_)
          refine G.fin tab_ok (hr := ?_)
          simp only [oneOrTup]
          congr 1
          exact (stOk_yes hbig hact (fun k hk => hall k (by omega))).symm
def r_implIsState (xs0 : List A) (rr : A) : Prop := ∃ (ps : List PG) (ks : List LK) (xs : List AT) (qs : List (List Int)) (hs : List (List Int)) (t : Int), (NW ps) ∧ (KW ks) ∧ (ps.length < 3518437208781) ∧ (ks.length < 2513169434844) ∧ (XW xs) ∧ (xs.length < 4398046511104) ∧ (qs.length < 5864062014805) ∧ (LW qs) ∧ (hs.length < 5864062014805) ∧ (LW hs) ∧ xs0 = [.agg [.row false 3 (ps.map pv), .row false 5 (ks.map kv)], .agg [.row false 2 (xs.map av), .row false 1 (qs.map ivL), .row false 1 (hs.map ivL), .int .i64 t]] ∧ rr = .bool (stOk ps ks xs qs hs t)
noncomputable def q_implIsState : List A → Option A := kgr r_implIsState
theorem k_implIsState : KOk Try.prog (20, q_implIsState) := kgr_ok (enters_of Try.func20 rfl rfl) (by rintro xs0 rr ⟨ps, ks, xs, qs, hs, t, hc1, hc2, hc3, hc4, hc5, hc6, hc7, hc8, hc9, hc10, rfl, rfl⟩; exact implIsState_ac ps ks xs qs hs t hc1 hc2 hc3 hc4 hc5 hc6 hc7 hc8 hc9 hc10)
theorem e_implIsState : ∀ (ps : List PG) (ks : List LK) (xs : List AT) (qs : List (List Int)) (hs : List (List Int)) (t : Int), (NW ps) → (KW ks) → (ps.length < 3518437208781) → (ks.length < 2513169434844) → (XW xs) → (xs.length < 4398046511104) → (qs.length < 5864062014805) → (LW qs) → (hs.length < 5864062014805) → (LW hs) → q_implIsState [.agg [.row false 3 (ps.map pv), .row false 5 (ks.map kv)], .agg [.row false 2 (xs.map av), .row false 1 (qs.map ivL), .row false 1 (hs.map ivL), .int .i64 t]] = some (.bool (stOk ps ks xs qs hs t)) := by
  intro ps ks xs qs hs t hc1 hc2 hc3 hc4 hc5 hc6 hc7 hc8 hc9 hc10
  refine kgr_eq (fun xs0 rr r2 h h2 => ?_) ⟨ps, ks, xs, qs, hs, t, hc1, hc2, hc3, hc4, hc5, hc6, hc7, hc8, hc9, hc10, rfl, rfl⟩
  obtain ⟨ps1, ks1, xs1, qs1, hs1, t1, _, _, _, _, _, _, _, _, _, _, e1, rfl⟩ := h; obtain ⟨ps2, ks2, xs2, qs2, hs2, t2, _, _, _, _, _, _, _, _, _, _, e2, rfl⟩ := h2
  rw [e1] at e2
  simp only [List.cons.injEq, A.int.injEq, A.agg.injEq, A.row.injEq, pv_inj, kv_inj, av_inj, ivL_inj, true_and, and_true] at e2
  obtain ⟨⟨e1, e2⟩, e3, e4, e5, e6⟩ := e2
  subst e1 e2 e3 e4 e5 e6
  rfl

end Go.Proofs.Yticgaflgbljhlaa.Ab
