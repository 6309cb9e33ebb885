/- Walks of functions of the program: what each answers, for all arguments that meet its conditions. -/
import Derived.Test.YticgaflgbljhlaaAbNet1
import Derived.Test.YticgaflgbljhlaaAbNet
import Derived.Test.YticgaflgbljhlaaFwB
import Derived.Test.YticgaflgbljhlaaAbAuto2
namespace Go.Proofs.Yticgaflgbljhlaa.Ab
open Go
set_option linter.unusedVariables false
set_option linter.unusedSimpArgs false
set_option maxHeartbeats 4000000

theorem ok_eqProgramS : Kn.ok Try.prog (kof [(144, q_eqProgram)]) := kof_cons k_eqProgram ((kof_nil _))
theorem eqProgramS_ac (ps : List PG) (ps' : List PG) (hc1 : NW ps) (hc2 : NW ps') (hc3 : ps.length < 3518437208781) : AC Try.prog 79 [.row false 3 (ps.map pv), .row false 3 (ps'.map pv)] (.bool (decide (ps = ps'))) := by
  have e_eqProgram := e_eqProgram
  refine AC.of tab_ok Try.func79 rfl (Nat.le_of_ble_eq_true rfl) fun w0 S0 => ?_
  change G _ _ ⟨[(0, .row false 3 (ps.map pv)), (1, .row false 3 (ps'.map pv))], [], 27⟩
  apply G.seq
  refine G.rg tab_ok ok_eqProgramS (hk := ?_)
  apply G.seq
  apply G.seq
  refine G.rg tab_ok ok_eqProgramS (hk := ?_)
  refine G.iff (h1 := fun h1 => ?_) (h2 := fun h1 => ?_)
  · try simp only [decide_eq_true_eq, decide_eq_false_iff_not, Bool.and_eq_true, Bool.and_eq_false_imp, Bool.or_eq_true, Bool.or_eq_false_iff, Bool.not_eq_true', Bool.not_eq_false', bne_iff_ne, beq_iff_eq, bne_eq_false_iff_eq, beq_eq_false_iff_ne, ne_eq, Int.ofNat_lt, Int.not_lt, Int.not_le, Int.ofNat_le, Nat.not_lt, Nat.not_le, gt_iff_lt, ge_iff_le] at h1
    apply G.seq
    refine G.rg tab_ok ok_eqProgramS (hk := ?_)
    refine G.fin tab_ok (hr := ?_)
    simp only [oneOrTup]
    congr 1
    symm
    rw [decide_eq_false_iff_not]
    intro e
    exact h1 (by rw [e])
  · try simp only [decide_eq_true_eq, decide_eq_false_iff_not, Bool.and_eq_true, Bool.and_eq_false_imp, Bool.or_eq_true, Bool.or_eq_false_iff, Bool.not_eq_true', Bool.not_eq_false', bne_iff_ne, beq_iff_eq, bne_eq_false_iff_eq, beq_eq_false_iff_ne, ne_eq, Int.ofNat_lt, Int.not_lt, Int.not_le, Int.ofNat_le, Nat.not_lt, Nat.not_le, gt_iff_lt, ge_iff_le] at h1
    apply G.skip
    apply G.seq
    apply G.seq
    refine G.rg tab_ok ok_eqProgramS (hk := ?_)
    apply G.block
    refine G.cn [0, 1, 5] [] (h := ?_)
    refine G.loopX (fun j : Nat => ⟨[(0, .row false 3 (ps.map pv)), (1, .row false 3 (ps'.map pv)), (5, .int .i64 j)], [], 27⟩) (fun j => j ≤ ps.length ∧ ∀ k < j, ps.getD k default = ps'.getD k default) (fun j => ps.length - j) (0) (⟨Nat.zero_le _, by omega⟩) (by simp) ?_
    intro j hj J hJ
    obtain ⟨hj, hall⟩ := hj
    have hw : IntKind.i64.wrap ((j : Int) + 1) = (j : Int) + 1 := wrap64 (by omega) (by omega)
    apply G.seq
    apply G.seq
    refine G.rg tab_ok ok_eqProgramS (hk := ?_)
    refine G.iff (h1 := fun h2 => ?_) (h2 := fun h2 => ?_)
    · try simp only [decide_eq_true_eq, decide_eq_false_iff_not, Bool.and_eq_true, Bool.and_eq_false_imp, Bool.or_eq_true, Bool.or_eq_false_iff, Bool.not_eq_true', Bool.not_eq_false', bne_iff_ne, beq_iff_eq, bne_eq_false_iff_eq, beq_eq_false_iff_ne, ne_eq, Int.ofNat_lt, Int.not_lt, Int.not_le, Int.ofNat_le, Nat.not_lt, Nat.not_le, gt_iff_lt, ge_iff_le] at h2
      apply G.skip
      apply G.seq
      apply G.block
      apply G.seq
      have h1m : j < ps'.length := by omega
      have h1l : j < ps.length := by omega
      have hlr := hc1 _ (getD_mem0 h1l)
      have hlm := hc2 _ (getD_mem0 h1m)
      refine G.dr mixed tab_ok ok_eqProgramS [0, 1, 2, 3, 4, 5, 6, 7, 8, 9] (hk := ?_)
      refine G.fg [0, 1, 5, 26] (hk := ?_)
      refine G.iff (h1 := fun h3 => ?_) (h2 := fun h3 => ?_)
      · try simp only [decide_eq_true_eq, decide_eq_false_iff_not, Bool.and_eq_true, Bool.and_eq_false_imp, Bool.or_eq_true, Bool.or_eq_false_iff, Bool.not_eq_true', Bool.not_eq_false', bne_iff_ne, beq_iff_eq, bne_eq_false_iff_eq, beq_eq_false_iff_ne, ne_eq, Int.ofNat_lt, Int.not_lt, Int.not_le, Int.ofNat_le, Nat.not_lt, Nat.not_le, gt_iff_lt, ge_iff_le] at h3
        apply G.seq
        refine G.rg tab_ok ok_eqProgramS (hk := ?_)
        refine G.fin tab_ok (hr := ?_)
        simp only [oneOrTup]
        congr 1
        symm
        rw [decide_eq_false_iff_not]
        intro e
        exact h3 (pg_ext.2 (by rw [e]))
      · try simp only [decide_eq_true_eq, decide_eq_false_iff_not, Bool.and_eq_true, Bool.and_eq_false_imp, Bool.or_eq_true, Bool.or_eq_false_iff, Bool.not_eq_true', Bool.not_eq_false', bne_iff_ne, beq_iff_eq, bne_eq_false_iff_eq, beq_eq_false_iff_ne, ne_eq, Int.ofNat_lt, Int.not_lt, Int.not_le, Int.ofNat_le, Nat.not_lt, Nat.not_le, gt_iff_lt, ge_iff_le] at h3
        apply G.skip
        apply G.blk
        refine G.rg tab_ok ok_eqProgramS (hk := ?_)
        refine G.cn [0, 1, 5] [] (h := ?_)
        exact G.upto (hJ (j + 1) ⟨by omega, geq_upto hall (pg_ext.1 h3)⟩ (by omega)) (by simp)
    · try simp only [decide_eq_true_eq, decide_eq_false_iff_not, Bool.and_eq_true, Bool.and_eq_false_imp, Bool.or_eq_true, Bool.or_eq_false_iff, Bool.not_eq_true', Bool.not_eq_false', bne_iff_ne, beq_iff_eq, bne_eq_false_iff_eq, beq_eq_false_iff_ne, ne_eq, Int.ofNat_lt, Int.not_lt, Int.not_le, Int.ofNat_le, Nat.not_lt, Nat.not_le, gt_iff_lt, ge_iff_le] at h2
      refine G.exit rfl ?_
      apply G.seq
      refine G.rg tab_ok ok_eqProgramS (hk := ?_)
      refine G.fin tab_ok (hr := ?_)
      simp only [oneOrTup]
      congr 1
      symm
      rw [decide_eq_true_eq]
      exact geq_all (by omega) (fun k hk => hall k (by omega))
def r_eqProgramS (xs0 : List A) (rr : A) : Prop := ∃ (ps : List PG) (ps' : List PG), (NW ps) ∧ (NW ps') ∧ (ps.length < 3518437208781) ∧ xs0 = [.row false 3 (ps.map pv), .row false 3 (ps'.map pv)] ∧ rr = .bool (decide (ps = ps'))
noncomputable def q_eqProgramS : List A → Option A := kgr r_eqProgramS
theorem k_eqProgramS : KOk Try.prog (79, q_eqProgramS) := kgr_ok (enters_of Try.func79 rfl rfl) (by rintro xs0 rr ⟨ps, ps', hc1, hc2, hc3, rfl, rfl⟩; exact eqProgramS_ac ps ps' hc1 hc2 hc3)
theorem e_eqProgramS : ∀ (ps : List PG) (ps' : List PG), (NW ps) → (NW ps') → (ps.length < 3518437208781) → q_eqProgramS [.row false 3 (ps.map pv), .row false 3 (ps'.map pv)] = some (.bool (decide (ps = ps'))) := by
  intro ps ps' hc1 hc2 hc3
  refine kgr_eq (fun xs0 rr r2 h h2 => ?_) ⟨ps, ps', hc1, hc2, hc3, rfl, rfl⟩
  obtain ⟨ps1, ps'1, _, _, _, e1, rfl⟩ := h; obtain ⟨ps2, ps'2, _, _, _, e2, rfl⟩ := h2
  rw [e1] at e2
  simp only [List.cons.injEq, A.int.injEq, A.bool.injEq, A.agg.injEq, A.row.injEq, A.fn.injEq, A.rp.injEq, insv_inj, iv_inj, pv_inj, kv_inj, av_inj, true_and, and_true] at e2
  simp [e2]

theorem ok_eqLink : Kn.ok Try.prog (kof [(31, q_eqIntS)]) := kof_cons k_eqIntS ((kof_nil _))
theorem eqLink_ac (fr : Int) (ou : Int) (to : Int) (ip : Int) (tk : List Int) (fr' : Int) (ou' : Int) (to' : Int) (ip' : Int) (tk' : List Int) (hc1 : tk.length < 17592186044416) (hc2 : tk'.length < 17592186044416) : AC Try.prog 145 [.agg [.int .i64 fr, .int .i64 ou, .int .i64 to, .int .i64 ip, .row false 1 (tk.map iv)], .agg [.int .i64 fr', .int .i64 ou', .int .i64 to', .int .i64 ip', .row false 1 (tk'.map iv)]] (.bool (decide ((fr, ou, to, ip, tk) = (fr', ou', to', ip', tk')))) := by
  have e_eqIntS := e_eqIntS
  refine AC.of tab_ok Try.func145 rfl (Nat.le_of_ble_eq_true rfl) fun w0 S0 => ?_
  change G _ _ ⟨[(0, .agg [.int .i64 fr, .int .i64 ou, .int .i64 to, .int .i64 ip, .row false 1 (tk.map iv)]), (1, .agg [.int .i64 fr', .int .i64 ou', .int .i64 to', .int .i64 ip', .row false 1 (tk'.map iv)])], [], 31⟩
  apply G.seq
  refine G.rg tab_ok ok_eqLink (hk := ?_)
  apply G.seq
  apply G.seq
  refine G.rg tab_ok ok_eqLink (hk := ?_)
  refine G.iff (h1 := fun h1 => ?_) (h2 := fun h1 => ?_)
  · try simp only [decide_eq_true_eq, decide_eq_false_iff_not, Bool.and_eq_true, Bool.and_eq_false_imp, Bool.or_eq_true, Bool.or_eq_false_iff, Bool.not_eq_true', Bool.not_eq_false', bne_iff_ne, beq_iff_eq, bne_eq_false_iff_eq, beq_eq_false_iff_ne, ne_eq, Int.ofNat_lt, Int.not_lt, Int.not_le, Int.ofNat_le, Nat.not_lt, Nat.not_le, gt_iff_lt, ge_iff_le] at h1
    apply G.seq
    refine G.rg tab_ok ok_eqLink (hk := ?_)
    refine G.fin tab_ok (hr := ?_)
    simp [oneOrTup, *]
  · try simp only [decide_eq_true_eq, decide_eq_false_iff_not, Bool.and_eq_true, Bool.and_eq_false_imp, Bool.or_eq_true, Bool.or_eq_false_iff, Bool.not_eq_true', Bool.not_eq_false', bne_iff_ne, beq_iff_eq, bne_eq_false_iff_eq, beq_eq_false_iff_ne, ne_eq, Int.ofNat_lt, Int.not_lt, Int.not_le, Int.ofNat_le, Nat.not_lt, Nat.not_le, gt_iff_lt, ge_iff_le] at h1
    apply G.skip
    apply G.seq
    apply G.seq
    refine G.rg tab_ok ok_eqLink (hk := ?_)
    refine G.fg [2, 3, 14] (hk := ?_)
    refine G.iff (h1 := fun h2 => ?_) (h2 := fun h2 => ?_)
    · try simp only [decide_eq_true_eq, decide_eq_false_iff_not, Bool.and_eq_true, Bool.and_eq_false_imp, Bool.or_eq_true, Bool.or_eq_false_iff, Bool.not_eq_true', Bool.not_eq_false', bne_iff_ne, beq_iff_eq, bne_eq_false_iff_eq, beq_eq_false_iff_ne, ne_eq, Int.ofNat_lt, Int.not_lt, Int.not_le, Int.ofNat_le, Nat.not_lt, Nat.not_le, gt_iff_lt, ge_iff_le] at h2
      apply G.seq
      refine G.rg tab_ok ok_eqLink (hk := ?_)
      refine G.fin tab_ok (hr := ?_)
      simp [oneOrTup, *]
    · try simp only [decide_eq_true_eq, decide_eq_false_iff_not, Bool.and_eq_true, Bool.and_eq_false_imp, Bool.or_eq_true, Bool.or_eq_false_iff, Bool.not_eq_true', Bool.not_eq_false', bne_iff_ne, beq_iff_eq, bne_eq_false_iff_eq, beq_eq_false_iff_ne, ne_eq, Int.ofNat_lt, Int.not_lt, Int.not_le, Int.ofNat_le, Nat.not_lt, Nat.not_le, gt_iff_lt, ge_iff_le] at h2
      apply G.skip
      apply G.seq
      apply G.seq
      refine G.rg tab_ok ok_eqLink (hk := ?_)
      refine G.iff (h1 := fun h3 => ?_) (h2 := fun h3 => ?_)
      · try simp only [decide_eq_true_eq, decide_eq_false_iff_not, Bool.and_eq_true, Bool.and_eq_false_imp, Bool.or_eq_true, Bool.or_eq_false_iff, Bool.not_eq_true', Bool.not_eq_false', bne_iff_ne, beq_iff_eq, bne_eq_false_iff_eq, beq_eq_false_iff_ne, ne_eq, Int.ofNat_lt, Int.not_lt, Int.not_le, Int.ofNat_le, Nat.not_lt, Nat.not_le, gt_iff_lt, ge_iff_le] at h3
        apply G.seq
        refine G.rg tab_ok ok_eqLink (hk := ?_)
        refine G.fin tab_ok (hr := ?_)
        simp [oneOrTup, *]
      · try simp only [decide_eq_true_eq, decide_eq_false_iff_not, Bool.and_eq_true, Bool.and_eq_false_imp, Bool.or_eq_true, Bool.or_eq_false_iff, Bool.not_eq_true', Bool.not_eq_false', bne_iff_ne, beq_iff_eq, bne_eq_false_iff_eq, beq_eq_false_iff_ne, ne_eq, Int.ofNat_lt, Int.not_lt, Int.not_le, Int.ofNat_le, Nat.not_lt, Nat.not_le, gt_iff_lt, ge_iff_le] at h3
        apply G.skip
        apply G.seq
        apply G.seq
        refine G.rg tab_ok ok_eqLink (hk := ?_)
        refine G.fg [2, 3, 24] (hk := ?_)
        refine G.iff (h1 := fun h4 => ?_) (h2 := fun h4 => ?_)
        · try simp only [decide_eq_true_eq, decide_eq_false_iff_not, Bool.and_eq_true, Bool.and_eq_false_imp, Bool.or_eq_true, Bool.or_eq_false_iff, Bool.not_eq_true', Bool.not_eq_false', bne_iff_ne, beq_iff_eq, bne_eq_false_iff_eq, beq_eq_false_iff_ne, ne_eq, Int.ofNat_lt, Int.not_lt, Int.not_le, Int.ofNat_le, Nat.not_lt, Nat.not_le, gt_iff_lt, ge_iff_le] at h4
          apply G.seq
          refine G.rg tab_ok ok_eqLink (hk := ?_)
          refine G.fin tab_ok (hr := ?_)
          simp [oneOrTup, *]
        · try simp only [decide_eq_true_eq, decide_eq_false_iff_not, Bool.and_eq_true, Bool.and_eq_false_imp, Bool.or_eq_true, Bool.or_eq_false_iff, Bool.not_eq_true', Bool.not_eq_false', bne_iff_ne, beq_iff_eq, bne_eq_false_iff_eq, beq_eq_false_iff_ne, ne_eq, Int.ofNat_lt, Int.not_lt, Int.not_le, Int.ofNat_le, Nat.not_lt, Nat.not_le, gt_iff_lt, ge_iff_le] at h4
          apply G.skip
          apply G.seq
          apply G.seq
          refine G.rg tab_ok ok_eqLink (hk := ?_)
          refine G.iff (h1 := fun h5 => ?_) (h2 := fun h5 => ?_)
          · try simp only [decide_eq_true_eq, decide_eq_false_iff_not, Bool.and_eq_true, Bool.and_eq_false_imp, Bool.or_eq_true, Bool.or_eq_false_iff, Bool.not_eq_true', Bool.not_eq_false', bne_iff_ne, beq_iff_eq, bne_eq_false_iff_eq, beq_eq_false_iff_ne, ne_eq, Int.ofNat_lt, Int.not_lt, Int.not_le, Int.ofNat_le, Nat.not_lt, Nat.not_le, gt_iff_lt, ge_iff_le] at h5
            apply G.seq
            refine G.rg tab_ok ok_eqLink (hk := ?_)
            refine G.fin tab_ok (hr := ?_)
            simp [oneOrTup, *]
          · try simp only [decide_eq_true_eq, decide_eq_false_iff_not, Bool.and_eq_true, Bool.and_eq_false_imp, Bool.or_eq_true, Bool.or_eq_false_iff, Bool.not_eq_true', Bool.not_eq_false', bne_iff_ne, beq_iff_eq, bne_eq_false_iff_eq, beq_eq_false_iff_ne, ne_eq, Int.ofNat_lt, Int.not_lt, Int.not_le, Int.ofNat_le, Nat.not_lt, Nat.not_le, gt_iff_lt, ge_iff_le] at h5
            apply G.skip
            apply G.seq
            refine G.rg tab_ok ok_eqLink (hk := ?_)
            refine G.fin tab_ok (hr := ?_)
            simp [oneOrTup, *]
def r_eqLink (xs0 : List A) (rr : A) : Prop := ∃ (fr : Int) (ou : Int) (to : Int) (ip : Int) (tk : List Int) (fr' : Int) (ou' : Int) (to' : Int) (ip' : Int) (tk' : List Int), (tk.length < 17592186044416) ∧ (tk'.length < 17592186044416) ∧ xs0 = [.agg [.int .i64 fr, .int .i64 ou, .int .i64 to, .int .i64 ip, .row false 1 (tk.map iv)], .agg [.int .i64 fr', .int .i64 ou', .int .i64 to', .int .i64 ip', .row false 1 (tk'.map iv)]] ∧ rr = .bool (decide ((fr, ou, to, ip, tk) = (fr', ou', to', ip', tk')))
noncomputable def q_eqLink : List A → Option A := kgr r_eqLink
theorem k_eqLink : KOk Try.prog (145, q_eqLink) := kgr_ok (enters_of Try.func145 rfl rfl) (by rintro xs0 rr ⟨fr, ou, to, ip, tk, fr', ou', to', ip', tk', hc1, hc2, rfl, rfl⟩; exact eqLink_ac fr ou to ip tk fr' ou' to' ip' tk' hc1 hc2)
theorem e_eqLink : ∀ (fr : Int) (ou : Int) (to : Int) (ip : Int) (tk : List Int) (fr' : Int) (ou' : Int) (to' : Int) (ip' : Int) (tk' : List Int), (tk.length < 17592186044416) → (tk'.length < 17592186044416) → q_eqLink [.agg [.int .i64 fr, .int .i64 ou, .int .i64 to, .int .i64 ip, .row false 1 (tk.map iv)], .agg [.int .i64 fr', .int .i64 ou', .int .i64 to', .int .i64 ip', .row false 1 (tk'.map iv)]] = some (.bool (decide ((fr, ou, to, ip, tk) = (fr', ou', to', ip', tk')))) := by
  intro fr ou to ip tk fr' ou' to' ip' tk' hc1 hc2
  refine kgr_eq (fun xs0 rr r2 h h2 => ?_) ⟨fr, ou, to, ip, tk, fr', ou', to', ip', tk', hc1, hc2, rfl, rfl⟩
  obtain ⟨fr1, ou1, to1, ip1, tk1, fr'1, ou'1, to'1, ip'1, tk'1, _, _, e1, rfl⟩ := h; obtain ⟨fr2, ou2, to2, ip2, tk2, fr'2, ou'2, to'2, ip'2, tk'2, _, _, e2, rfl⟩ := h2
  rw [e1] at e2
  simp only [List.cons.injEq, A.int.injEq, A.bool.injEq, A.agg.injEq, A.row.injEq, A.fn.injEq, A.rp.injEq, insv_inj, iv_inj, true_and, and_true] at e2
  simp [e2]

theorem ok_eqLinkS : Kn.ok Try.prog (kof [(145, q_eqLink)]) := kof_cons k_eqLink ((kof_nil _))
theorem eqLinkS_ac (ks : List LK) (ks' : List LK) (hc1 : KW ks) (hc2 : KW ks') (hc3 : ks.length < 2513169434844) : AC Try.prog 80 [.row false 5 (ks.map kv), .row false 5 (ks'.map kv)] (.bool (decide (ks = ks'))) := by
  have e_eqLink := e_eqLink
  refine AC.of tab_ok Try.func80 rfl (Nat.le_of_ble_eq_true rfl) fun w0 S0 => ?_
  change G _ _ ⟨[(0, .row false 5 (ks.map kv)), (1, .row false 5 (ks'.map kv))], [], 27⟩
  apply G.seq
  refine G.rg tab_ok ok_eqLinkS (hk := ?_)
  apply G.seq
  apply G.seq
  refine G.rg tab_ok ok_eqLinkS (hk := ?_)
  refine G.iff (h1 := fun h1 => ?_) (h2 := fun h1 => ?_)
  · try simp only [decide_eq_true_eq, decide_eq_false_iff_not, Bool.and_eq_true, Bool.and_eq_false_imp, Bool.or_eq_true, Bool.or_eq_false_iff, Bool.not_eq_true', Bool.not_eq_false', bne_iff_ne, beq_iff_eq, bne_eq_false_iff_eq, beq_eq_false_iff_ne, ne_eq, Int.ofNat_lt, Int.not_lt, Int.not_le, Int.ofNat_le, Nat.not_lt, Nat.not_le, gt_iff_lt, ge_iff_le] at h1
    apply G.seq
    refine G.rg tab_ok ok_eqLinkS (hk := ?_)
    refine G.fin tab_ok (hr := ?_)
    simp only [oneOrTup]
    congr 1
    symm
    rw [decide_eq_false_iff_not]
    intro e
    exact h1 (by rw [e])
  · try simp only [decide_eq_true_eq, decide_eq_false_iff_not, Bool.and_eq_true, Bool.and_eq_false_imp, Bool.or_eq_true, Bool.or_eq_false_iff, Bool.not_eq_true', Bool.not_eq_false', bne_iff_ne, beq_iff_eq, bne_eq_false_iff_eq, beq_eq_false_iff_ne, ne_eq, Int.ofNat_lt, Int.not_lt, Int.not_le, Int.ofNat_le, Nat.not_lt, Nat.not_le, gt_iff_lt, ge_iff_le] at h1
    apply G.skip
    apply G.seq
    apply G.seq
    refine G.rg tab_ok ok_eqLinkS (hk := ?_)
    apply G.block
    refine G.cn [0, 1, 5] [] (h := ?_)
    refine G.loopX (fun j : Nat => ⟨[(0, .row false 5 (ks.map kv)), (1, .row false 5 (ks'.map kv)), (5, .int .i64 j)], [], 27⟩) (fun j => j ≤ ks.length ∧ ∀ k < j, ks.getD k default = ks'.getD k default) (fun j => ks.length - j) (0) (⟨Nat.zero_le _, by omega⟩) (by simp) ?_
    intro j hj J hJ
    obtain ⟨hj, hall⟩ := hj
    have hw : IntKind.i64.wrap ((j : Int) + 1) = (j : Int) + 1 := wrap64 (by omega) (by omega)
    apply G.seq
    apply G.seq
    refine G.rg tab_ok ok_eqLinkS (hk := ?_)
    refine G.iff (h1 := fun h2 => ?_) (h2 := fun h2 => ?_)
    · try simp only [decide_eq_true_eq, decide_eq_false_iff_not, Bool.and_eq_true, Bool.and_eq_false_imp, Bool.or_eq_true, Bool.or_eq_false_iff, Bool.not_eq_true', Bool.not_eq_false', bne_iff_ne, beq_iff_eq, bne_eq_false_iff_eq, beq_eq_false_iff_ne, ne_eq, Int.ofNat_lt, Int.not_lt, Int.not_le, Int.ofNat_le, Nat.not_lt, Nat.not_le, gt_iff_lt, ge_iff_le] at h2
      apply G.skip
      apply G.seq
      apply G.block
      apply G.seq
      have h1m : j < ks'.length := by omega
      have h1l : j < ks.length := by omega
      have hlr := hc1 _ (getD_mem0 h1l)
      have hlm := hc2 _ (getD_mem0 h1m)
      refine G.dr mixed tab_ok ok_eqLinkS [0, 1, 2, 3, 4, 5, 6, 7, 8, 9] (hk := ?_)
      refine G.fg [0, 1, 5, 26] (hk := ?_)
      refine G.iff (h1 := fun h3 => ?_) (h2 := fun h3 => ?_)
      · try simp only [decide_eq_true_eq, decide_eq_false_iff_not, Bool.and_eq_true, Bool.and_eq_false_imp, Bool.or_eq_true, Bool.or_eq_false_iff, Bool.not_eq_true', Bool.not_eq_false', bne_iff_ne, beq_iff_eq, bne_eq_false_iff_eq, beq_eq_false_iff_ne, ne_eq, Int.ofNat_lt, Int.not_lt, Int.not_le, Int.ofNat_le, Nat.not_lt, Nat.not_le, gt_iff_lt, ge_iff_le] at h3
        apply G.seq
        refine G.rg tab_ok ok_eqLinkS (hk := ?_)
        refine G.fin tab_ok (hr := ?_)
        simp only [oneOrTup]
        congr 1
        symm
        rw [decide_eq_false_iff_not]
        intro e
        exact h3 (lk_ext.2 (by rw [e]))
      · try simp only [decide_eq_true_eq, decide_eq_false_iff_not, Bool.and_eq_true, Bool.and_eq_false_imp, Bool.or_eq_true, Bool.or_eq_false_iff, Bool.not_eq_true', Bool.not_eq_false', bne_iff_ne, beq_iff_eq, bne_eq_false_iff_eq, beq_eq_false_iff_ne, ne_eq, Int.ofNat_lt, Int.not_lt, Int.not_le, Int.ofNat_le, Nat.not_lt, Nat.not_le, gt_iff_lt, ge_iff_le] at h3
        apply G.skip
        apply G.blk
        refine G.rg tab_ok ok_eqLinkS (hk := ?_)
        refine G.cn [0, 1, 5] [] (h := ?_)
        exact G.upto (hJ (j + 1) ⟨by omega, geq_upto hall (lk_ext.1 h3)⟩ (by omega)) (by simp)
    · try simp only [decide_eq_true_eq, decide_eq_false_iff_not, Bool.and_eq_true, Bool.and_eq_false_imp, Bool.or_eq_true, Bool.or_eq_false_iff, Bool.not_eq_true', Bool.not_eq_false', bne_iff_ne, beq_iff_eq, bne_eq_false_iff_eq, beq_eq_false_iff_ne, ne_eq, Int.ofNat_lt, Int.not_lt, Int.not_le, Int.ofNat_le, Nat.not_lt, Nat.not_le, gt_iff_lt, ge_iff_le] at h2
      refine G.exit rfl ?_
      apply G.seq
      refine G.rg tab_ok ok_eqLinkS (hk := ?_)
      refine G.fin tab_ok (hr := ?_)
      simp only [oneOrTup]
      congr 1
      symm
      rw [decide_eq_true_eq]
      exact geq_all (by omega) (fun k hk => hall k (by omega))
def r_eqLinkS (xs0 : List A) (rr : A) : Prop := ∃ (ks : List LK) (ks' : List LK), (KW ks) ∧ (KW ks') ∧ (ks.length < 2513169434844) ∧ xs0 = [.row false 5 (ks.map kv), .row false 5 (ks'.map kv)] ∧ rr = .bool (decide (ks = ks'))
noncomputable def q_eqLinkS : List A → Option A := kgr r_eqLinkS
theorem k_eqLinkS : KOk Try.prog (80, q_eqLinkS) := kgr_ok (enters_of Try.func80 rfl rfl) (by rintro xs0 rr ⟨ks, ks', hc1, hc2, hc3, rfl, rfl⟩; exact eqLinkS_ac ks ks' hc1 hc2 hc3)
theorem e_eqLinkS : ∀ (ks : List LK) (ks' : List LK), (KW ks) → (KW ks') → (ks.length < 2513169434844) → q_eqLinkS [.row false 5 (ks.map kv), .row false 5 (ks'.map kv)] = some (.bool (decide (ks = ks'))) := by
  intro ks ks' hc1 hc2 hc3
  refine kgr_eq (fun xs0 rr r2 h h2 => ?_) ⟨ks, ks', hc1, hc2, hc3, rfl, rfl⟩
  obtain ⟨ks1, ks'1, _, _, _, e1, rfl⟩ := h; obtain ⟨ks2, ks'2, _, _, _, e2, rfl⟩ := h2
  rw [e1] at e2
  simp only [List.cons.injEq, A.int.injEq, A.bool.injEq, A.agg.injEq, A.row.injEq, A.fn.injEq, A.rp.injEq, insv_inj, iv_inj, pv_inj, kv_inj, av_inj, true_and, and_true] at e2
  simp [e2]

theorem ok_eqNetwork : Kn.ok Try.prog (kof [(79, q_eqProgramS), (80, q_eqLinkS)]) := kof_cons k_eqProgramS (kof_cons k_eqLinkS ((kof_nil _)))
theorem eqNetwork_ac (ps : List PG) (ks : List LK) (ps' : List PG) (ks' : List LK) (hc1 : NW ps) (hc2 : KW ks) (hc3 : ps.length < 3518437208781) (hc4 : ks.length < 2513169434844) (hc5 : NW ps') (hc6 : KW ks') : AC Try.prog 21 [.agg [.row false 3 (ps.map pv), .row false 5 (ks.map kv)], .agg [.row false 3 (ps'.map pv), .row false 5 (ks'.map kv)]] (.bool (decide (ps = ps') && decide (ks = ks'))) := by
  have e_eqProgramS := e_eqProgramS
  have e_eqLinkS := e_eqLinkS
  refine AC.of tab_ok Try.func21 rfl (Nat.le_of_ble_eq_true rfl) fun w0 S0 => ?_
  change G _ _ ⟨[(0, .agg [.row false 3 (ps.map pv), .row false 5 (ks.map kv)]), (1, .agg [.row false 3 (ps'.map pv), .row false 5 (ks'.map kv)])], [], 17⟩
  apply G.seq
  refine G.rg tab_ok ok_eqNetwork (hk := ?_)
  apply G.seq
  apply G.seq
  refine G.rg tab_ok ok_eqNetwork (hk := ?_)
  refine G.fg [2, 3, 10] (hk := ?_)
  refine G.iff (h1 := fun h1 => ?_) (h2 := fun h1 => ?_)
  · try simp only [decide_eq_true_eq, decide_eq_false_iff_not, Bool.and_eq_true, Bool.and_eq_false_imp, Bool.or_eq_true, Bool.or_eq_false_iff, Bool.not_eq_true', Bool.not_eq_false', bne_iff_ne, beq_iff_eq, bne_eq_false_iff_eq, beq_eq_false_iff_ne, ne_eq, Int.ofNat_lt, Int.not_lt, Int.not_le, Int.ofNat_le, Nat.not_lt, Nat.not_le, gt_iff_lt, ge_iff_le] at h1
    apply G.seq
    refine G.rg tab_ok ok_eqNetwork (hk := ?_)
    refine G.fin tab_ok (hr := ?_)
    simp [oneOrTup, *]
  · try simp only [decide_eq_true_eq, decide_eq_false_iff_not, Bool.and_eq_true, Bool.and_eq_false_imp, Bool.or_eq_true, Bool.or_eq_false_iff, Bool.not_eq_true', Bool.not_eq_false', bne_iff_ne, beq_iff_eq, bne_eq_false_iff_eq, beq_eq_false_iff_ne, ne_eq, Int.ofNat_lt, Int.not_lt, Int.not_le, Int.ofNat_le, Nat.not_lt, Nat.not_le, gt_iff_lt, ge_iff_le] at h1
    apply G.skip
    apply G.seq
    apply G.seq
    refine G.rg tab_ok ok_eqNetwork (hk := ?_)
    refine G.iff (h1 := fun h2 => ?_) (h2 := fun h2 => ?_)
    · try simp only [decide_eq_true_eq, decide_eq_false_iff_not, Bool.and_eq_true, Bool.and_eq_false_imp, Bool.or_eq_true, Bool.or_eq_false_iff, Bool.not_eq_true', Bool.not_eq_false', bne_iff_ne, beq_iff_eq, bne_eq_false_iff_eq, beq_eq_false_iff_ne, ne_eq, Int.ofNat_lt, Int.not_lt, Int.not_le, Int.ofNat_le, Nat.not_lt, Nat.not_le, gt_iff_lt, ge_iff_le] at h2
      apply G.seq
      refine G.rg tab_ok ok_eqNetwork (hk := ?_)
      refine G.fin tab_ok (hr := ?_)
      simp [oneOrTup, *]
    · try simp only [decide_eq_true_eq, decide_eq_false_iff_not, Bool.and_eq_true, Bool.and_eq_false_imp, Bool.or_eq_true, Bool.or_eq_false_iff, Bool.not_eq_true', Bool.not_eq_false', bne_iff_ne, beq_iff_eq, bne_eq_false_iff_eq, beq_eq_false_iff_ne, ne_eq, Int.ofNat_lt, Int.not_lt, Int.not_le, Int.ofNat_le, Nat.not_lt, Nat.not_le, gt_iff_lt, ge_iff_le] at h2
      apply G.skip
      apply G.seq
      refine G.rg tab_ok ok_eqNetwork (hk := ?_)
      refine G.fin tab_ok (hr := ?_)
      simp [oneOrTup, *]
def r_eqNetwork (xs0 : List A) (rr : A) : Prop := ∃ (ps : List PG) (ks : List LK) (ps' : List PG) (ks' : List LK), (NW ps) ∧ (KW ks) ∧ (ps.length < 3518437208781) ∧ (ks.length < 2513169434844) ∧ (NW ps') ∧ (KW ks') ∧ xs0 = [.agg [.row false 3 (ps.map pv), .row false 5 (ks.map kv)], .agg [.row false 3 (ps'.map pv), .row false 5 (ks'.map kv)]] ∧ rr = .bool (decide (ps = ps') && decide (ks = ks'))
noncomputable def q_eqNetwork : List A → Option A := kgr r_eqNetwork
theorem k_eqNetwork : KOk Try.prog (21, q_eqNetwork) := kgr_ok (enters_of Try.func21 rfl rfl) (by rintro xs0 rr ⟨ps, ks, ps', ks', hc1, hc2, hc3, hc4, hc5, hc6, rfl, rfl⟩; exact eqNetwork_ac ps ks ps' ks' hc1 hc2 hc3 hc4 hc5 hc6)
theorem e_eqNetwork : ∀ (ps : List PG) (ks : List LK) (ps' : List PG) (ks' : List LK), (NW ps) → (KW ks) → (ps.length < 3518437208781) → (ks.length < 2513169434844) → (NW ps') → (KW ks') → q_eqNetwork [.agg [.row false 3 (ps.map pv), .row false 5 (ks.map kv)], .agg [.row false 3 (ps'.map pv), .row false 5 (ks'.map kv)]] = some (.bool (decide (ps = ps') && decide (ks = ks'))) := by
  intro ps ks ps' ks' hc1 hc2 hc3 hc4 hc5 hc6
  refine kgr_eq (fun xs0 rr r2 h h2 => ?_) ⟨ps, ks, ps', ks', hc1, hc2, hc3, hc4, hc5, hc6, rfl, rfl⟩
  obtain ⟨ps1, ks1, ps'1, ks'1, _, _, _, _, _, _, e1, rfl⟩ := h; obtain ⟨ps2, ks2, ps'2, ks'2, _, _, _, _, _, _, e2, rfl⟩ := h2
  rw [e1] at e2
  simp only [List.cons.injEq, A.agg.injEq, A.row.injEq, pv_inj, kv_inj, true_and, and_true] at e2
  obtain ⟨⟨e3, e4⟩, e5, e6⟩ := e2
  subst e3 e4 e5 e6
  rfl

end Go.Proofs.Yticgaflgbljhlaa.Ab
