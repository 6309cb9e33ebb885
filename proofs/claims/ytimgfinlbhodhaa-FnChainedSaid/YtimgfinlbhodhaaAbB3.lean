/- Walks of functions of the program: what each answers, for all arguments that meet its conditions. -/
import Derived.Test.YtimgfinlbhodhaaFwGg
namespace Go.Proofs.Ytimgfinlbhodhaa.Ab
open Go
set_option linter.unusedVariables false
set_option linter.unusedSimpArgs false
set_option maxHeartbeats 4000000
theorem ok_implChainNetwork : Kn.ok Try.prog (kof [(112, q_checked)]) := kof_cons k_checked ((kof_nil _))
theorem implChainNetwork_ac (ps : List PG) (tk : List Int) (hc1 : NW ps) (hc2 : NS ps) (hc3 : ps.length ≤ 1048576) (hc4 : tk.length ≤ 1048576) : AC Try.prog 57 [.row false 3 (ps.map pv), .row false 1 (tk.map iv)] (.tup [.agg [.row true 3 ((chainO ps tk).1.map opv), .row true 5 ((chainO ps tk).2.1.map okv)], .bool (chainO ps tk).2.2]) := by
  have e_checked := e_checked
  have htk5 : tk.length < 17592186044416 := by omega
  refine AC.of tab_ok Try.func57 rfl (Nat.le_of_ble_eq_true rfl) fun w0 S0 => ?_
  change G _ _ ⟨[(0, .row false 3 (ps.map pv)), (1, .row false 1 (tk.map iv))], [], 59⟩
  apply G.seq
  refine G.rg tab_ok ok_implChainNetwork (hk := ?_)
  apply G.seq
  apply G.seq
  refine G.rg tab_ok ok_implChainNetwork (hk := ?_)
  refine G.fg [0, 1, 4, 17] (hk := ?_)
  refine G.iff (h1 := fun h1 => ?_) (h2 := fun h1 => ?_)
  · try simp only [zz, bne_iff_ne, beq_iff_eq, bne_eq_false_iff_eq, beq_eq_false_iff_ne, ne_eq, gt_iff_lt, ge_iff_le] at h1
    apply G.seq
    refine G.rg tab_ok ok_implChainNetwork (hk := ?_)
    refine G.focusNil 0 0 0 3 rfl rfl rfl ?_
    simp only [withH]
    refine G.focusNil 0 0 1 5 rfl rfl rfl ?_
    simp only [withH]
    refine G.fin tab_ok (hr := ?_)
    simp only [oneOrTup, chain_out h1]
    rfl
  · try simp only [zz, bne_iff_ne, beq_iff_eq, bne_eq_false_iff_eq, beq_eq_false_iff_ne, ne_eq, gt_iff_lt, ge_iff_le] at h1
    apply G.skip
    apply G.seq
    refine G.rg tab_ok ok_implChainNetwork (hk := ?_)
    apply G.seq
    apply G.seq
    refine G.rg tab_ok ok_implChainNetwork (hk := ?_)
    apply G.block
    have hp12 : ps.length ≤ 12 := by omega
    have hp0 : 0 < ps.length := by omega
    refine G.nm [0, 4, 6, 24, 25, 26] (h := ?_)
    refine G.loopX (fun j : Nat => ⟨[(0, .row false 3 (ps.map pv)), (4, .ptr 0 0 0), (6, .ptr 1 0 0), (24, .row false 3 (ps.map pv)), (25, .int .i64 ps.length), (26, .int .i64 j)], [some (2, [[.nils, .nils]]), some (2, [[.row false 3 (ps.map pv), .sl 2 0 (j + 1)]]), some (5, (chI ps.length tk j).map kv)], 59⟩) (fun j => j ≤ ps.length ∧ ∀ k < j, oneP (ps.getD k default) = true) (fun j => ps.length - j) (0) (⟨Nat.zero_le _, by omega⟩) (by simp [chI, kv]) ?_
    intro j hj J hJ
    obtain ⟨hj, hall⟩ := hj
    have hw : IntKind.i64.wrap ((j : Int) + 1) = (j : Int) + 1 := wrap64 (by omega) (by omega)
    have hcl := chI_len ps.length tk j
    have htk1 : List.take (j + 1) ((chI ps.length tk j).map kv) = (chI ps.length tk j).map kv := List.take_of_length_le (by simp [hcl])
    have hq1 : (((j + 1) + 1 : Nat) : Int) ≤ 4611686018427387904 := by omega
    have hq2 : ((j + 1) + 1) * 56 ≤ 70368744177664 := by omega
    apply G.seq
    refine G.rg tab_ok ok_implChainNetwork (hk := ?_)
    apply G.seq
    refine G.iff (h1 := fun h2 => ?_) (h2 := fun h2 => ?_)
    · try simp only [zz, bne_iff_ne, beq_iff_eq, bne_eq_false_iff_eq, beq_eq_false_iff_ne, ne_eq, gt_iff_lt, ge_iff_le] at h2
      apply G.skip
      apply G.seq
      apply G.block
      apply G.seq
      refine G.rg tab_ok ok_implChainNetwork (hk := ?_)
      apply G.seq
      apply G.seq
      refine G.rg tab_ok ok_implChainNetwork (hk := ?_)
      refine G.fg [0, 4, 6, 7, 24, 25, 26, 38] (hk := ?_)
      refine G.iff (h1 := fun h3 => ?_) (h2 := fun h3 => ?_)
      · try simp only [zz, bne_iff_ne, beq_iff_eq, bne_eq_false_iff_eq, beq_eq_false_iff_ne, ne_eq, gt_iff_lt, ge_iff_le] at h3
        apply G.seq
        refine G.rg tab_ok ok_implChainNetwork (hk := ?_)
        refine G.focusNil 0 0 0 3 rfl rfl rfl ?_
        simp only [withH]
        refine G.focusNil 0 0 1 5 rfl rfl rfl ?_
        simp only [withH]
        refine G.fin tab_ok (hr := ?_)
        simp only [oneOrTup, chain_no h2 (one_no h3)]
        rfl
      · try simp only [zz, bne_iff_ne, beq_iff_eq, bne_eq_false_iff_eq, beq_eq_false_iff_ne, ne_eq, gt_iff_lt, ge_iff_le] at h3
        apply G.skip
        apply G.seq
        have hone : oneP (ps.getD j default) = true := one_yes h3
        have hchs : chI ps.length tk j ++ [⟨(j : Int), 0, if j + 1 = ps.length then -1 else (j : Int) + 1, 0, []⟩] = chI ps.length tk (j + 1) := rfl
        refine G.rg tab_ok ok_implChainNetwork (hk := ?_)
        apply G.seq
        apply G.seq
        refine G.rg tab_ok ok_implChainNetwork (hk := ?_)
        refine G.iff (h1 := fun h4 => ?_) (h2 := fun h4 => ?_)
        · try simp only [zz, bne_iff_ne, beq_iff_eq, bne_eq_false_iff_eq, beq_eq_false_iff_ne, ne_eq, gt_iff_lt, ge_iff_le] at h4
          have hje : ps.length ≤ j + 1 := by omega
          clear h4
          refine G.rg tab_ok ok_implChainNetwork (hk := ?_)
          refine G.rg tab_ok ok_implChainNetwork (hk := ?_)
          refine G.lastNil 5 4 (f := kv) (l := chI ps.length tk j) false 1 ⟨(j : Int), 0, if j + 1 = ps.length then -1 else (j : Int) + 1, 0, []⟩ rfl rfl (by first | (rw [if_pos (by omega)]; rfl) | (rw [if_neg (by omega)]; rfl)) ?_
          rw [hchs]
          apply G.blk
          refine G.rg tab_ok ok_implChainNetwork (hk := ?_)
          refine G.nm [0, 4, 6, 24, 25, 26] (h := ?_)
          exact G.upto (hJ (j + 1) ⟨by omega, up_step hall hone⟩ (by omega)) (by simp)
        · try simp only [zz, bne_iff_ne, beq_iff_eq, bne_eq_false_iff_eq, beq_eq_false_iff_ne, ne_eq, gt_iff_lt, ge_iff_le] at h4
          apply G.skip
          refine G.rg tab_ok ok_implChainNetwork (hk := ?_)
          refine G.lastNil 5 4 (f := kv) (l := chI ps.length tk j) false 1 ⟨(j : Int), 0, if j + 1 = ps.length then -1 else (j : Int) + 1, 0, []⟩ rfl rfl (by first | (rw [if_pos (by omega)]; rfl) | (rw [if_neg (by omega)]; rfl)) ?_
          rw [hchs]
          apply G.blk
          refine G.rg tab_ok ok_implChainNetwork (hk := ?_)
          refine G.nm [0, 4, 6, 24, 25, 26] (h := ?_)
          exact G.upto (hJ (j + 1) ⟨by omega, up_step hall hone⟩ (by omega)) (by simp)
    · try simp only [zz, bne_iff_ne, beq_iff_eq, bne_eq_false_iff_eq, beq_eq_false_iff_ne, ne_eq, gt_iff_lt, ge_iff_le] at h2
      refine G.exit rfl ?_
      apply G.seq
      obtain rfl : j = ps.length := by omega
      have hkw := chI_KW (n := ps.length) htk5 ps.length
      have hkb : (chI ps.length tk ps.length).length < 2513169434844 := by omega
      have hle2 : ps.length + 1 ≤ (chI ps.length tk ps.length).length := by omega
      have hpb : ps.length < 3518437208781 := by omega
      have hce := chI_end tk hp0
      have hcy := chain_yes (tk := tk) hp0 (fun k hk => hall k (by omega))
      rw [← hce] at hcy
      clear hce hall hcl
      refine G.rg tab_ok ok_implChainNetwork (hk := ?_)
      refine G.fin tab_ok (hr := ?_)
      rw [hcy]
      simp [oneOrTup]
def r_implChainNetwork (xs0 : List A) (rr : A) : Prop := ∃ (ps : List PG) (tk : List Int), (NW ps) ∧ (NS ps) ∧ (ps.length ≤ 1048576) ∧ (tk.length ≤ 1048576) ∧ xs0 = [.row false 3 (ps.map pv), .row false 1 (tk.map iv)] ∧ rr = .tup [.agg [.row true 3 ((chainO ps tk).1.map opv), .row true 5 ((chainO ps tk).2.1.map okv)], .bool (chainO ps tk).2.2]
noncomputable def q_implChainNetwork : List A → Option A := kgr r_implChainNetwork
theorem k_implChainNetwork : KOk Try.prog (57, q_implChainNetwork) := kgr_ok (enters_of Try.func57 rfl rfl) (by rintro xs0 rr ⟨ps, tk, hc1, hc2, hc3, hc4, rfl, rfl⟩; exact implChainNetwork_ac ps tk hc1 hc2 hc3 hc4)
theorem e_implChainNetwork : ∀ (ps : List PG) (tk : List Int), (NW ps) → (NS ps) → (ps.length ≤ 1048576) → (tk.length ≤ 1048576) → q_implChainNetwork [.row false 3 (ps.map pv), .row false 1 (tk.map iv)] = some (.tup [.agg [.row true 3 ((chainO ps tk).1.map opv), .row true 5 ((chainO ps tk).2.1.map okv)], .bool (chainO ps tk).2.2]) := by
  intro ps tk hc1 hc2 hc3 hc4
  refine kgr_eq (fun xs0 rr r2 h h2 => ?_) ⟨ps, tk, hc1, hc2, hc3, hc4, rfl, rfl⟩
  obtain ⟨ps1, tk1, _, _, _, _, e1, rfl⟩ := h; obtain ⟨ps2, tk2, _, _, _, _, e2, rfl⟩ := h2
  rw [e1] at e2
  simp only [List.cons.injEq, A.row.injEq, pv_inj, iv_inj, true_and, and_true] at e2
  obtain ⟨e3, e4⟩ := e2
  subst e3 e4
  rfl
end Go.Proofs.Ytimgfinlbhodhaa.Ab
