/- Walks of functions of the program: what each answers, for all arguments that meet its conditions. -/
import Derived.Test.YtimgfinlbhodhaaAbY6
namespace Go.Proofs.Ytimgfinlbhodhaa.Ab
open Go
set_option linter.unusedVariables false
set_option linter.unusedSimpArgs false
set_option maxHeartbeats 4000000
theorem ok_implHasCycle : Kn.ok Try.prog (kof [(43, q_implReachedFrom), (119, q_containsInt)]) := kof_cons k_implReachedFrom (kof_cons k_containsInt ((kof_nil _)))
theorem implHasCycle_ac (ps : List PG) (ks : List LK) (hc1 : NW ps) (hc2 : KW ks) (hc3 : ps.length < 3518437208781) (hc4 : ks.length < 2513169434844) : AC Try.prog 44 [.agg [.row false 3 (ps.map pv), .row false 5 (ks.map kv)]] (.bool (cycO ps ks)) := by
  have e_implReachedFrom := e_implReachedFrom
  have e_containsInt := e_containsInt
  have hft : (false == true) = false := rfl
  have htf : (true == false) = false := rfl
  have hgb := gbv_eq
  have hpg := pureLL_gbv
  refine AC.of tab_ok Try.func44 rfl (Nat.le_of_ble_eq_true rfl) fun w0 S0 => ?_
  change G _ _ ⟨[(0, .agg [.row false 3 (ps.map pv), .row false 5 (ks.map kv)])], [], 25⟩
  apply G.seq
  refine G.rg tab_ok ok_implHasCycle (hk := ?_)
  apply G.seq
  apply G.seq
  refine G.rg tab_ok ok_implHasCycle (hk := ?_)
  apply G.block
  refine G.nm [1, 8, 9] (h := ?_)
  refine G.loopX (fun j : Nat => ⟨[(1, .ptr 0 0 0), (8, .int .i64 ps.length), (9, .int .i64 j)], [some (2, [[.row false 3 (ps.map pv), .row false 5 (ks.map kv)]])], 25⟩) (fun j => j ≤ ps.length ∧ (netOk ps ks = true → ∀ k < j, cycAt ps ks k = false)) (fun j => ps.length - j) (0) (⟨Nat.zero_le _, by omega⟩) (by simp) ?_
  intro j hj J hJ
  obtain ⟨hj, hall⟩ := hj
  have hw : IntKind.i64.wrap ((j : Int) + 1) = (j : Int) + 1 := wrap64 (by omega) (by omega)
  apply G.seq
  refine G.rg tab_ok ok_implHasCycle (hk := ?_)
  apply G.seq
  refine G.iff (h1 := fun h1 => ?_) (h2 := fun h1 => ?_)
  · try simp only [decide_eq_true_eq, decide_eq_false_iff_not, Bool.and_eq_true, Bool.and_eq_false_imp, Bool.or_eq_true, Bool.or_eq_false_iff, Bool.not_eq_true', Bool.not_eq_false', bne_iff_ne, beq_iff_eq, bne_eq_false_iff_eq, beq_eq_false_iff_ne, ne_eq, Int.ofNat_lt, Int.not_lt, Int.not_le, Int.ofNat_le, Nat.not_lt, Nat.not_le, gt_iff_lt, ge_iff_le] at h1
    apply G.skip
    apply G.seq
    apply G.block
    apply G.seq
    refine G.rg tab_ok ok_implHasCycle (hk := ?_)
    apply G.seq
    have hjp : j < ps.length := by omega
    have hrl := reachO_len ps ks (j : Int)
    obtain ⟨Z, hZ⟩ : ∃ x, reachO ps ks (j : Int) = x := ⟨_, rfl⟩
    rw [hZ] at hrl
    have hrb : Z.1.length < 17592186044416 := by omega
    have hhj : hasP ps (j : Int) = true := has_yes (by omega) (by omega)
    rcases (show netOk ps ks = false ∨ (netOk ps ks = true ∧ cycAt ps ks j = false) ∨ (netOk ps ks = true ∧ cycAt ps ks j = true) by cases netOk ps ks <;> cases cycAt ps ks j <;> simp) with c1 | ⟨c1, c2⟩ | ⟨c1, c2⟩
    · skip
      have hup : netOk ps ks = true → ∀ k < j + 1, cycAt ps ks k = false := fun hn => by rw [c1] at hn; cases hn
      have hz2 : Z.2 = false := by rw [← hZ, reachO_no (Or.inl c1)]
      refine G.rg tab_ok ok_implHasCycle (hk := ?_)
      apply G.seq
      refine G.rg tab_ok ok_implHasCycle (hk := ?_)
      refine G.iffF (h2 := ?_)
      apply G.skip
      apply G.blk
      refine G.rg tab_ok ok_implHasCycle (hk := ?_)
      refine G.nm [1, 8, 9] (h := ?_)
      exact G.upto (hJ (j + 1) ⟨by omega, hup⟩ (by omega)) (by simp)
    · skip
      have hup : netOk ps ks = true → ∀ k < j + 1, cycAt ps ks k = false := fun hn => up_stepB (hall hn) c2
      have hz2 : Z.2 = true := by rw [← hZ, reachO_yes c1 hhj]
      have hz3 : hasI Z.1 (j : Int) = false := by rw [← hZ, reachO_yes c1 hhj]; exact (cyc_has c1 hjp).trans c2
      refine G.rg tab_ok ok_implHasCycle (hk := ?_)
      apply G.seq
      refine G.rg tab_ok ok_implHasCycle (hk := ?_)
      refine G.iffF (h2 := ?_)
      apply G.skip
      apply G.blk
      refine G.rg tab_ok ok_implHasCycle (hk := ?_)
      refine G.nm [1, 8, 9] (h := ?_)
      exact G.upto (hJ (j + 1) ⟨by omega, hup⟩ (by omega)) (by simp)
    · skip
      have hz2 : Z.2 = true := by rw [← hZ, reachO_yes c1 hhj]
      have hz3 : hasI Z.1 (j : Int) = true := by rw [← hZ, reachO_yes c1 hhj]; exact (cyc_has c1 hjp).trans c2
      refine G.rg tab_ok ok_implHasCycle (hk := ?_)
      apply G.seq
      refine G.rg tab_ok ok_implHasCycle (hk := ?_)
      refine G.iffT (h1 := ?_)
      apply G.seq
      refine G.rg tab_ok ok_implHasCycle (hk := ?_)
      refine G.fin tab_ok (hr := ?_)
      simp only [oneOrTup]
      rw [cyc_yes c1 hjp c2]
  · try simp only [decide_eq_true_eq, decide_eq_false_iff_not, Bool.and_eq_true, Bool.and_eq_false_imp, Bool.or_eq_true, Bool.or_eq_false_iff, Bool.not_eq_true', Bool.not_eq_false', bne_iff_ne, beq_iff_eq, bne_eq_false_iff_eq, beq_eq_false_iff_ne, ne_eq, Int.ofNat_lt, Int.not_lt, Int.not_le, Int.ofNat_le, Nat.not_lt, Nat.not_le, gt_iff_lt, ge_iff_le] at h1
    refine G.exit rfl ?_
    apply G.seq
    refine G.rg tab_ok ok_implHasCycle (hk := ?_)
    refine G.fin tab_ok (hr := ?_)
    simp only [oneOrTup]
    congr 1
    rcases (show netOk ps ks = false ∨ netOk ps ks = true by cases netOk ps ks <;> simp) with c1 | c1
    · rw [cyc_net c1]
    · rw [cyc_no (fun k hk => hall c1 k (by omega))]
def r_implHasCycle (xs0 : List A) (rr : A) : Prop := ∃ (ps : List PG) (ks : List LK), (NW ps) ∧ (KW ks) ∧ (ps.length < 3518437208781) ∧ (ks.length < 2513169434844) ∧ xs0 = [.agg [.row false 3 (ps.map pv), .row false 5 (ks.map kv)]] ∧ rr = .bool (cycO ps ks)
noncomputable def q_implHasCycle : List A → Option A := kgr r_implHasCycle
theorem k_implHasCycle : KOk Try.prog (44, q_implHasCycle) := kgr_ok (enters_of Try.func44 rfl rfl) (by rintro xs0 rr ⟨ps, ks, hc1, hc2, hc3, hc4, rfl, rfl⟩; exact implHasCycle_ac ps ks hc1 hc2 hc3 hc4)
theorem e_implHasCycle : ∀ (ps : List PG) (ks : List LK), (NW ps) → (KW ks) → (ps.length < 3518437208781) → (ks.length < 2513169434844) → q_implHasCycle [.agg [.row false 3 (ps.map pv), .row false 5 (ks.map kv)]] = some (.bool (cycO ps ks)) := by
  intro ps ks hc1 hc2 hc3 hc4
  refine kgr_eq (fun xs0 rr r2 h h2 => ?_) ⟨ps, ks, hc1, hc2, hc3, hc4, rfl, rfl⟩
  obtain ⟨ps1, ks1, _, _, _, _, e1, rfl⟩ := h; obtain ⟨ps2, ks2, _, _, _, _, e2, rfl⟩ := h2
  rw [e1] at e2
  simp only [List.cons.injEq, A.int.injEq, A.bool.injEq, A.agg.injEq, A.row.injEq, pv_inj, kv_inj, true_and, and_true] at e2
  obtain ⟨e3, e4⟩ := e2
  subst e3 e4
  rfl
end Go.Proofs.Ytimgfinlbhodhaa.Ab
