/- Walks of functions. -/
import Derived.Test.YtimgfinlbhodhaaFwGg
namespace Go.Proofs.Ytimgfinlbhodhaa.Ab
open Go
set_option linter.unusedVariables false
set_option linter.unusedSimpArgs false
set_option maxHeartbeats 4000000
theorem ints_ac (l : List Int) (m : List Int) (hc1 : l.length < 17592186044416) (hc2 : m.length < 17592186044416) : AC Try.prog 35 [.row false 1 (l.map iv), .row false 1 (m.map iv)] (.bool (decide (l = m))) := by
 refine AC.of tab_ok Try.func35 rfl (Nat.le_of_ble_eq_true rfl) fun w0 S0 => ?_
 change G _ _ ⟨[(0, .row false 1 (l.map iv)), (1, .row false 1 (m.map iv))], [], 26⟩
 apply G.seq
 refine G.rg tab_ok (kof_nil _) (hk := ?_)
 apply G.seq
 apply G.seq
 refine G.rg tab_ok (kof_nil _) (hk := ?_)
 refine G.iff (h1 := fun h1 => ?_) (h2 := fun h1 => ?_)
 ·try simp only [zqz] at h1
  apply G.seq
  refine G.rg tab_ok (kof_nil _) (hk := ?_)
  refine G.fin tab_ok (hr := ?_)
  simp only [oneOrTup]
  congr 1
  symm
  rw [decide_eq_false_iff_not]
  intro e
  exact h1 (by rw [e])
 ·try simp only [zqz] at h1
  apply G.skip
  apply G.seq
  apply G.seq
  refine G.rg tab_ok (kof_nil _) (hk := ?_)
  apply G.block
  refine G.cn [0, 1, 11, 12, 13] [] (h := ?_)
  refine G.loopX (fun i : Nat => ⟨[(0, .row false 1 (l.map iv)), (1, .row false 1 (m.map iv)), (11, .row false 1 (l.map iv)), (12, .int .i64 m.length), (13, .int .i64 i)], [], 26⟩) (fun i => i ≤ l.length ∧ ∀ j < i, l.getD j default = m.getD j default) (fun i => l.length - i) (0) (⟨Nat.zero_le _, by omega⟩) (rfl) ?_
  intro i hi J hJ
  obtain ⟨hi, hall⟩ := hi
  have hw : IntKind.i64.wrap ((i : Int) + 1) = (i : Int) + 1 := wrap64 (by omega) (by omega)
  apply G.seq
  refine G.rg tab_ok (kof_nil _) (hk := ?_)
  apply G.seq
  refine G.iff (h1 := fun h2 => ?_) (h2 := fun h2 => ?_)
  ·try simp only [zqz] at h2
   apply G.skip
   apply G.seq
   apply G.block
   apply G.seq
   have h1m : i < m.length := by omega
   have h1l : i < l.length := by omega
   refine G.rg tab_ok (kof_nil _) (hk := ?_)
   apply G.seq
   refine G.dr mixed tab_ok (kof_nil _) [0, 1, 2, 3, 4, 5, 6, 7, 8] (hk := ?_)
   refine G.fg [0, 1, 11, 12, 13, 24] (hk := ?_)
   refine G.iff (h1 := fun h3 => ?_) (h2 := fun h3 => ?_)
   ·try simp only [zqz] at h3
    apply G.seq
    refine G.rg tab_ok (kof_nil _) (hk := ?_)
    refine G.fin tab_ok (hr := ?_)
    simp only [oneOrTup]
    congr 1
    symm
    rw [decide_eq_false_iff_not]
    intro e
    exact h3 (by rw [e])
   ·try simp only [zqz] at h3
    apply G.skip
    apply G.blk
    refine G.rg tab_ok (kof_nil _) (hk := ?_)
    refine G.cn [0, 1, 11, 12, 13] [] (h := ?_)
    exact G.upto (hJ (i + 1) ⟨by omega, geq_upto hall h3⟩ (by omega)) (by simp)
  ·try simp only [zqz] at h2
   refine G.exit rfl ?_
   apply G.seq
   refine G.rg tab_ok (kof_nil _) (hk := ?_)
   refine G.fin tab_ok (hr := ?_)
   simp only [oneOrTup]
   congr 1
   symm
   rw [decide_eq_true_eq]
   exact geq_all (by omega) (fun j hj => hall j (by omega))
def r_ints (xs0 : List A) (rr : A) : Prop := ∃ (l : List Int) (m : List Int), (l.length < 17592186044416) ∧ (m.length < 17592186044416) ∧ xs0 = [.row false 1 (l.map iv), .row false 1 (m.map iv)] ∧ rr = .bool (decide (l = m))
noncomputable def q_ints : List A → Option A := kgr r_ints
theorem k_ints : KOk Try.prog (35, q_ints) := kgr_ok (enters_of Try.func35 rfl rfl) (by rintro xs0 rr ⟨l, m, hc1, hc2, rfl, rfl⟩; exact ints_ac l m hc1 hc2)
theorem e_ints : ∀ (l : List Int) (m : List Int), (l.length < 17592186044416) → (m.length < 17592186044416) → q_ints [.row false 1 (l.map iv), .row false 1 (m.map iv)] = some (.bool (decide (l = m))) := by
 intro l m hc1 hc2
 refine kgr_eq (fun xs0 rr r2 h h2 => ?_) ⟨l, m, hc1, hc2, rfl, rfl⟩
 obtain ⟨l1, m1, _, _, e1, rfl⟩ := h; obtain ⟨l2, m2, _, _, e2, rfl⟩ := h2
 rw [e1] at e2
 simp only [List.cons.injEq, A.int.injEq, A.bool.injEq, A.agg.injEq, A.row.injEq, A.fn.injEq, A.rp.injEq, insv_inj, iv_inj, true_and, and_true] at e2
 simp [e2]
end Go.Proofs.Ytimgfinlbhodhaa.Ab
