/- Walks of functions of the program, and the plain definitions. -/
import Derived.Test.YtimgfinlbhodhaaFwGa
namespace Go.Proofs.Ytimgfinlbhodhaa.Ab
open Go
set_option linter.unusedVariables false
set_option linter.unusedSimpArgs false
set_option maxHeartbeats 4000000
theorem cloneInt_ac (rs : List Int) (hc1 : rs.length ≤ 1048576) : AC Try.prog 71 [.row false 1 (rs.map iv)] (.row true 1 (rs.map iv)) := by
 have hb1 : ((0 + rs.length : Nat) : Int) ≤ 4611686018427387904 := by omega
 have hb2 : (0 + rs.length) * 8 ≤ 70368744177664 := by omega
 have hb3 : (rs.length : Int) ≤ 4611686018427387904 := by omega
 have hb4 : rs.length * 8 ≤ 70368744177664 := by omega
 refine AC.of tab_ok Try.func71 rfl (Nat.le_of_ble_eq_true rfl) fun w0 S0 => ?_
 change G _ _ ⟨[(0, .row false 1 (rs.map iv))], [], 8⟩
 apply G.seq
 refine G.rg tab_ok (kof_nil _) (hk := ?_)
 apply G.seq
 apply G.seq
 refine G.rgN 1 tab_ok (kof_nil _) (hk := ?_)
 refine G.opNil tab_ok rfl rfl rfl rfl rfl rfl rfl (h1 := fun hn => ?_) (h2 := ?_)
 ·refine G.rgC tab_ok (kof_nil _) (hk := ?_)
  refine G.iffT (h1 := ?_)
  apply G.seq
  refine G.rg tab_ok (kof_nil _) (hk := ?_)
  have e : rs = [] := by simpa using hn
  subst e
  refine G.nilRow 2 1 rfl ?_
  refine G.fin tab_ok (hr := ?_)
  rfl
 ·refine G.rgC tab_ok (kof_nil _) (hk := ?_)
  refine G.iffF (h2 := ?_)
  apply G.skip
  apply G.seq
  refine G.rg tab_ok (kof_nil _) (hk := ?_)
  refine G.fin tab_ok (hr := ?_)
  rfl
def r_cloneInt (xs0 : List A) (rr : A) : Prop := ∃ (rs : List Int), (rs.length ≤ 1048576) ∧ xs0 = [.row false 1 (rs.map iv)] ∧ rr = .row true 1 (rs.map iv)
noncomputable def q_cloneInt : List A → Option A := kgr r_cloneInt
theorem k_cloneInt : KOk Try.prog (71, q_cloneInt) := kgr_ok (enters_of Try.func71 rfl rfl) (by rintro xs0 rr ⟨rs, hc1, rfl, rfl⟩; exact cloneInt_ac rs hc1)
theorem e_cloneInt : ∀ (rs : List Int), (rs.length ≤ 1048576) → q_cloneInt [.row false 1 (rs.map iv)] = some (.row true 1 (rs.map iv)) := by
 intro rs hc1
 refine kgr_eq (fun xs0 rr r2 h h2 => ?_) ⟨rs, hc1, rfl, rfl⟩
 obtain ⟨rs1, _, e1, rfl⟩ := h; obtain ⟨rs2, _, e2, rfl⟩ := h2
 rw [e1] at e2
 simp only [List.cons.injEq, A.int.injEq, A.bool.injEq, A.agg.injEq, A.row.injEq, A.fn.injEq, A.rp.injEq, insv_inj, iv_inj, true_and, and_true] at e2
 simp [e2]
end Go.Proofs.Ytimgfinlbhodhaa.Ab
