/- Walks of functions of the program: what each answers, for all arguments that meet its conditions. -/
import Derived.Test.YtnjonjgjfcbgeaaAbB1
import Derived.Test.YtnjonjgjfcbgeaaAbP12
import Derived.Test.YtnjonjgjfcbgeaaAbN5
namespace Go.Proofs.Ytnjonjgjfcbgeaa.Ab
open Go
set_option linter.unusedVariables false
set_option linter.unusedSimpArgs false
set_option maxHeartbeats 4000000

theorem ok_specChainNetwork : Kn.ok Try.prog (kof [(109, q_l3Program), (110, q_l1Copy), (28, q_specIsNetwork)]) := kof_cons k_l3Program (kof_cons k_l1Copy (kof_cons k_specIsNetwork ((kof_nil _))))
theorem specChainNetwork_ac (ps : List PG) (tk : List Int) (hc1 : NW ps) (hc2 : NS ps) (hc3 : ps.length ≤ 1048576) (hc4 : tk.length ≤ 1048576) : AC Try.prog 52 [.row false 3 (ps.map pv), .row false 1 (tk.map iv)] (.tup [.agg [.row true 3 ((chainO ps tk).1.map opv), .row true 5 ((chainO ps tk).2.1.map okv)], .bool (chainO ps tk).2.2]) := by
  have e_l3Program := e_l3Program
  have e_l1Copy := e_l1Copy
  have e_specIsNetwork := e_specIsNetwork
  have htk5 : tk.length < 17592186044416 := by omega
  refine AC.of tab_ok Try.func52 rfl (Nat.le_of_ble_eq_true rfl) fun w0 S0 => ?_
  change G _ _ ⟨[(0, .row false 3 (ps.map pv)), (1, .row false 1 (tk.map iv))], [], 67⟩
  apply G.seq
  refine G.rg tab_ok ok_specChainNetwork (hk := ?_)
  apply G.seq
  refine G.rg tab_ok ok_specChainNetwork (hk := ?_)
  refine G.focusNil 1 0 0 3 rfl rfl rfl ?_
  simp only [withH]
  refine G.focusNil 1 0 1 5 rfl rfl rfl ?_
  simp only [withH]
  apply G.seq
  apply G.seq
  refine G.rg tab_ok ok_specChainNetwork (hk := ?_)
  apply G.block
  refine G.nm [0, 1, 4, 6, 10, 11, 12] (h := ?_)
  refine G.loopX (fun j : Nat => ⟨[(0, .row false 3 (ps.map pv)), (1, .row false 1 (tk.map iv)), (4, .ptr 0 0 0), (6, .ptr 1 0 0), (10, .row false 3 (ps.map pv)), (11, .int .i64 ps.length), (12, .int .i64 j)], [some (2, [[.nils, .nils]]), some (2, [[.sl 2 0 j, .sl 3 0 j]]), some (3, (ps.take j).map opv), some (5, (chS j).map okv)], 67⟩) (fun j => j ≤ ps.length ∧ ∀ k < j, oneP (ps.getD k default) = true) (fun j => ps.length - j) (0) (⟨Nat.zero_le _, by omega⟩) (by simp [chS]) ?_
  intro j hj J hJ
  obtain ⟨hj, hall⟩ := hj
  have hw : IntKind.i64.wrap ((j : Int) + 1) = (j : Int) + 1 := wrap64 (by omega) (by omega)
  have hcl := chS_len j
  have htc : List.take j ((chS j).map okv) = (chS j).map okv := List.take_of_length_le (by simp [hcl])
  have hq1 : ((j + 1 : Nat) : Int) ≤ 4611686018427387904 := by omega
  have hq2 : (j + 1) * 56 ≤ 70368744177664 := by omega
  have hq3 : ((j + 1 : Nat) : Int) ≤ 4611686018427387904 := by omega
  have hq4 : (j + 1) * 40 ≤ 70368744177664 := by omega
  apply G.seq
  refine G.rg tab_ok ok_specChainNetwork (hk := ?_)
  apply G.seq
  refine G.iff (h1 := fun h1 => ?_) (h2 := fun h1 => ?_)
  · try simp only [decide_eq_true_eq, decide_eq_false_iff_not, Bool.and_eq_true, Bool.and_eq_false_imp, Bool.or_eq_true, Bool.or_eq_false_iff, Bool.not_eq_true', Bool.not_eq_false', bne_iff_ne, beq_iff_eq, bne_eq_false_iff_eq, beq_eq_false_iff_ne, ne_eq, Int.ofNat_lt, Int.not_lt, Int.not_le, Int.ofNat_le, Nat.not_lt, Nat.not_le, gt_iff_lt, ge_iff_le] at h1
    apply G.skip
    apply G.seq
    apply G.block
    apply G.seq
    have hmj : min j ps.length = j := by omega
    have htk1 : List.take j ((ps.take j).map opv) = (ps.take j).map opv := List.take_of_length_le (by simp; omega)
    have htj : ps.take j ++ [ps.getD j default] = ps.take (j + 1) := take_snoc (by omega)
    have hlr : (ps.getD j default).l.length ≤ 1048576 := hc2 _ (getD_mem0 (by omega))
    refine G.rg tab_ok ok_specChainNetwork (hk := ?_)
    apply G.seq
    apply G.seq
    refine G.rg tab_ok ok_specChainNetwork (hk := ?_)
    refine G.fg [0, 1, 4, 6, 7, 8, 10, 11, 12, 24, 26, 27, 28, 29, 30, 31, 32] (hk := ?_)
    refine G.iff (h1 := fun h2 => ?_) (h2 := fun h2 => ?_)
    · try simp only [decide_eq_true_eq, decide_eq_false_iff_not, Bool.and_eq_true, Bool.and_eq_false_imp, Bool.or_eq_true, Bool.or_eq_false_iff, Bool.not_eq_true', Bool.not_eq_false', bne_iff_ne, beq_iff_eq, bne_eq_false_iff_eq, beq_eq_false_iff_ne, ne_eq, Int.ofNat_lt, Int.not_lt, Int.not_le, Int.ofNat_le, Nat.not_lt, Nat.not_le, gt_iff_lt, ge_iff_le] at h2
      apply G.seq
      refine G.rg tab_ok ok_specChainNetwork (hk := ?_)
      refine G.focusNil 0 0 0 3 rfl rfl rfl ?_
      simp only [withH]
      refine G.focusNil 0 0 1 5 rfl rfl rfl ?_
      simp only [withH]
      refine G.fin tab_ok (hr := ?_)
      simp only [oneOrTup, chain_no h1 (one_no h2)]
      rfl
    · try simp only [decide_eq_true_eq, decide_eq_false_iff_not, Bool.and_eq_true, Bool.and_eq_false_imp, Bool.or_eq_true, Bool.or_eq_false_iff, Bool.not_eq_true', Bool.not_eq_false', bne_iff_ne, beq_iff_eq, bne_eq_false_iff_eq, beq_eq_false_iff_ne, ne_eq, Int.ofNat_lt, Int.not_lt, Int.not_le, Int.ofNat_le, Nat.not_lt, Nat.not_le, gt_iff_lt, ge_iff_le] at h2
      apply G.skip
      apply G.seq
      have hone : oneP (ps.getD j default) = true := one_yes h2
      have hchs : chS j ++ [⟨(j : Int) - 1, 0, j, 0, []⟩] = chS (j + 1) := rfl
      have hwm : IntKind.i64.wrap ((j : Int) - 1) = (j : Int) - 1 := wrap64 (by omega) (by omega)
      refine G.dr mixed tab_ok ok_specChainNetwork [0, 1, 2, 3, 4, 5, 6, 7] (hk := ?_)
      refine G.lastE 7 2 5 (f := opv) (l := ps.take j) (ps.getD j default) rfl rfl rfl (by decide) (by simp) (pureLL_insv _) rfl ?_
      rw [htj]
      refine G.rg tab_ok ok_specChainNetwork (hk := ?_)
      refine G.lastNil 9 4 (f := okv) (l := chS j) true 1 ⟨(j : Int) - 1, 0, j, 0, []⟩ rfl rfl rfl ?_
      rw [hchs]
      apply G.blk
      refine G.rg tab_ok ok_specChainNetwork (hk := ?_)
      refine G.nm [0, 1, 4, 6, 10, 11, 12] (h := ?_)
      exact G.upto (hJ (j + 1) ⟨by omega, up_step hall hone⟩ (by omega)) (by simp)
  · try simp only [decide_eq_true_eq, decide_eq_false_iff_not, Bool.and_eq_true, Bool.and_eq_false_imp, Bool.or_eq_true, Bool.or_eq_false_iff, Bool.not_eq_true', Bool.not_eq_false', bne_iff_ne, beq_iff_eq, bne_eq_false_iff_eq, beq_eq_false_iff_ne, ne_eq, Int.ofNat_lt, Int.not_lt, Int.not_le, Int.ofNat_le, Nat.not_lt, Nat.not_le, gt_iff_lt, ge_iff_le] at h1
    refine G.exit rfl ?_
    apply G.seq
    apply G.seq
    obtain rfl : j = ps.length := by omega
    rw [List.take_length]
    refine G.rg tab_ok ok_specChainNetwork (hk := ?_)
    refine G.iff (h1 := fun h3 => ?_) (h2 := fun h3 => ?_)
    · try simp only [decide_eq_true_eq, decide_eq_false_iff_not, Bool.and_eq_true, Bool.and_eq_false_imp, Bool.or_eq_true, Bool.or_eq_false_iff, Bool.not_eq_true', Bool.not_eq_false', bne_iff_ne, beq_iff_eq, bne_eq_false_iff_eq, beq_eq_false_iff_ne, ne_eq, Int.ofNat_lt, Int.not_lt, Int.not_le, Int.ofNat_le, Nat.not_lt, Nat.not_le, gt_iff_lt, ge_iff_le] at h3
      apply G.seq
      refine G.rg tab_ok ok_specChainNetwork (hk := ?_)
      refine G.focusNil 0 0 0 3 rfl rfl rfl ?_
      simp only [withH]
      refine G.focusNil 0 0 1 5 rfl rfl rfl ?_
      simp only [withH]
      refine G.fin tab_ok (hr := ?_)
      simp only [oneOrTup, chain_nil (ps := ps) (tk := tk) (by omega)]
      rfl
    · try simp only [decide_eq_true_eq, decide_eq_false_iff_not, Bool.and_eq_true, Bool.and_eq_false_imp, Bool.or_eq_true, Bool.or_eq_false_iff, Bool.not_eq_true', Bool.not_eq_false', bne_iff_ne, beq_iff_eq, bne_eq_false_iff_eq, beq_eq_false_iff_ne, ne_eq, Int.ofNat_lt, Int.not_lt, Int.not_le, Int.ofNat_le, Nat.not_lt, Nat.not_le, gt_iff_lt, ge_iff_le] at h3
      apply G.skip
      apply G.seq
      have hp0 : 0 < ps.length := by omega
      have hp0i : (0 : Int) < (ps.length : Int) := by omega
      have hz : ((chS ps.length).map okv)[0]? = some [.int .i64 (-1), .int .i64 0, .int .i64 0, .int .i64 0, .row true 1 []] := by rw [List.getElem?_map, chS_zero hp0]; rfl
      have hcy := chain_yes (tk := tk) hp0 (fun k hk => hall k (by omega))
      have hwm : IntKind.i64.wrap ((ps.length : Int) - 1) = (ps.length : Int) - 1 := wrap64 (by omega) (by omega)
      refine G.dr mixed tab_ok ok_specChainNetwork [0, 1, 2, 3, 4, 5, 6] (hk := ?_)
      refine G.unfocusE 3 0 4 4 (f := okv) (l := chS ps.length) ⟨-1, 0, 0, 0, tk⟩ rfl (by rw [chS_len]; omega) rfl rfl (by decide) (by simp) (pureLL_iv _) rfl ?_
      obtain ⟨CS, hCS⟩ : ∃ x, (chS ps.length).set 0 ⟨-1, 0, 0, 0, tk⟩ = x := ⟨_, rfl⟩
      have hCl : CS.length = ps.length := by rw [← hCS]; simp [chS_len]
      rw [hCS]
      apply G.seq
      have hCt : List.take ps.length (CS.map okv) = CS.map okv := List.take_of_length_le (by simp [hCl])
      have hCK : CS ++ [⟨(ps.length : Int) - 1, 0, -1, 0, []⟩] = chainK ps.length tk := by rw [← hCS]; rfl
      
      refine G.rg tab_ok ok_specChainNetwork (hk := ?_)
      refine G.lastNil 6 4 (f := okv) (l := CS) true 1 ⟨(ps.length : Int) - 1, 0, -1, 0, []⟩ rfl rfl rfl ?_
      rw [hCK]
      apply G.seq
      apply G.seq
      have hkw := chainK_KW (n := ps.length) hp0 htk5
      have hkl0 := chainK_len ps.length tk
      have hkb : (chainK ps.length tk).length < 2513169434844 := by omega
      have hle2 : ps.length + 1 ≤ (chainK ps.length tk).length := by omega
      have hpb : ps.length < 3518437208781 := by omega
      have hKt : List.take (ps.length + 1) ((chainK ps.length tk).map okv) = (chainK ps.length tk).map okv := List.take_of_length_le (by simp [hkl0])
      clear hkl0
      refine G.rg tab_ok ok_specChainNetwork (hk := ?_)
      refine G.fg [4, 6, 64] (hk := ?_)
      refine G.iff (h1 := fun h4 => ?_) (h2 := fun h4 => ?_)
      · try simp only [decide_eq_true_eq, decide_eq_false_iff_not, Bool.and_eq_true, Bool.and_eq_false_imp, Bool.or_eq_true, Bool.or_eq_false_iff, Bool.not_eq_true', Bool.not_eq_false', bne_iff_ne, beq_iff_eq, bne_eq_false_iff_eq, beq_eq_false_iff_ne, ne_eq, Int.ofNat_lt, Int.not_lt, Int.not_le, Int.ofNat_le, Nat.not_lt, Nat.not_le, gt_iff_lt, ge_iff_le] at h4
        apply G.seq
        refine G.rg tab_ok ok_specChainNetwork (hk := ?_)
        refine G.focusNil 0 0 0 3 rfl rfl rfl ?_
        simp only [withH]
        refine G.focusNil 0 0 1 5 rfl rfl rfl ?_
        simp only [withH]
        refine G.fin tab_ok (hr := ?_)
        simp only [oneOrTup, hcy, chk, h4]
        rfl
      · try simp only [decide_eq_true_eq, decide_eq_false_iff_not, Bool.and_eq_true, Bool.and_eq_false_imp, Bool.or_eq_true, Bool.or_eq_false_iff, Bool.not_eq_true', Bool.not_eq_false', bne_iff_ne, beq_iff_eq, bne_eq_false_iff_eq, beq_eq_false_iff_ne, ne_eq, Int.ofNat_lt, Int.not_lt, Int.not_le, Int.ofNat_le, Nat.not_lt, Nat.not_le, gt_iff_lt, ge_iff_le] at h4
        apply G.skip
        apply G.seq
        refine G.rg tab_ok ok_specChainNetwork (hk := ?_)
        refine G.fin tab_ok (hr := ?_)
        simp only [oneOrTup, hcy, chk, h4, if_true]
def r_specChainNetwork (xs0 : List A) (rr : A) : Prop := ∃ (ps : List PG) (tk : List Int), (NW ps) ∧ (NS ps) ∧ (ps.length ≤ 1048576) ∧ (tk.length ≤ 1048576) ∧ xs0 = [.row false 3 (ps.map pv), .row false 1 (tk.map iv)] ∧ rr = .tup [.agg [.row true 3 ((chainO ps tk).1.map opv), .row true 5 ((chainO ps tk).2.1.map okv)], .bool (chainO ps tk).2.2]
noncomputable def q_specChainNetwork : List A → Option A := kgr r_specChainNetwork
theorem k_specChainNetwork : KOk Try.prog (52, q_specChainNetwork) := kgr_ok (enters_of Try.func52 rfl rfl) (by rintro xs0 rr ⟨ps, tk, hc1, hc2, hc3, hc4, rfl, rfl⟩; exact specChainNetwork_ac ps tk hc1 hc2 hc3 hc4)
theorem e_specChainNetwork : ∀ (ps : List PG) (tk : List Int), (NW ps) → (NS ps) → (ps.length ≤ 1048576) → (tk.length ≤ 1048576) → q_specChainNetwork [.row false 3 (ps.map pv), .row false 1 (tk.map iv)] = some (.tup [.agg [.row true 3 ((chainO ps tk).1.map opv), .row true 5 ((chainO ps tk).2.1.map okv)], .bool (chainO ps tk).2.2]) := by
  intro ps tk hc1 hc2 hc3 hc4
  refine kgr_eq (fun xs0 rr r2 h h2 => ?_) ⟨ps, tk, hc1, hc2, hc3, hc4, rfl, rfl⟩
  obtain ⟨ps1, tk1, _, _, _, _, e1, rfl⟩ := h; obtain ⟨ps2, tk2, _, _, _, _, e2, rfl⟩ := h2
  rw [e1] at e2
  simp only [List.cons.injEq, A.row.injEq, pv_inj, iv_inj, true_and, and_true] at e2
  obtain ⟨e3, e4⟩ := e2
  subst e3 e4
  rfl

end Go.Proofs.Ytnjonjgjfcbgeaa.Ab
