/- Walks of functions. -/
import Derived.Test.YtimgfinlbhodhaaAbJoin
import Derived.Test.YtimgfinlbhodhaaAbX1
import Derived.Test.YtimgfinlbhodhaaFwGg
import Derived.Test.YtimgfinlbhodhaaAbAutoE
namespace Go.Proofs.Ytimgfinlbhodhaa.Ab
open Go
set_option linter.unusedVariables false
set_option linter.unusedSimpArgs false
set_option maxHeartbeats 4000000
theorem cloneK_ac (ks : List LK) (hc1 : ks.length ≤ 1048576) : AC Try.prog 111 [.row false 5 (ks.map kv)] (.row true 5 (ks.map kv)) := by
 have hb1 : ((0 + ks.length : Nat) : Int) ≤ 4611686018427387904 := by omega
 have hb2 : (0 + ks.length) * 56 ≤ 70368744177664 := by omega
 have hb3 : (ks.length : Int) ≤ 4611686018427387904 := by omega
 have hb4 : ks.length * 56 ≤ 70368744177664 := by omega
 have hcpi : ∀ l : List LK, (l.map kv).all (fun y => y.all copyable) = true := fun l => by rw [List.all_map, List.all_eq_true]; exact fun x _ => rfl
 refine AC.of tab_ok Try.func111 rfl (Nat.le_of_ble_eq_true rfl) fun w0 S0 => ?_
 change G _ _ ⟨[(0, .row false 5 (ks.map kv))], [], 8⟩
 apply G.seq
 refine G.rg tab_ok (kof_nil _) (hk := ?_)
 apply G.seq
 apply G.seq
 refine G.rgN 1 tab_ok (kof_nil _) (hk := ?_)
 refine G.opNil tab_ok rfl rfl rfl rfl rfl rfl rfl (h1 := fun hn => ?_) (h2 := ?_)
 ·refine G.rgC tab_ok (kof_nil _) (hk := ?_)
  refine G.iffT (h1 := ?_)
  apply G.seq
  refine G.rg tab_ok (kof_nil _) (hk := ?_)
  have e : ks = [] := by simpa using hn
  subst e
  refine G.nilRow 2 5 rfl ?_
  refine G.fin tab_ok (hr := ?_)
  rfl
 ·refine G.rgC tab_ok (kof_nil _) (hk := ?_)
  refine G.iffF (h2 := ?_)
  apply G.skip
  apply G.seq
  refine G.rg tab_ok (kof_nil _) (hk := ?_)
  refine G.fin tab_ok (hr := ?_)
  rfl
def r_cloneK (xs0 : List A) (rr : A) : Prop := ∃ (ks : List LK), (ks.length ≤ 1048576) ∧ xs0 = [.row false 5 (ks.map kv)] ∧ rr = .row true 5 (ks.map kv)
noncomputable def q_cloneK : List A → Option A := kgr r_cloneK
theorem k_cloneK : KOk Try.prog (111, q_cloneK) := kgr_ok (enters_of Try.func111 rfl rfl) (by rintro xs0 rr ⟨ks, hc1, rfl, rfl⟩; exact cloneK_ac ks hc1)
theorem e_cloneK : ∀ (ks : List LK), (ks.length ≤ 1048576) → q_cloneK [.row false 5 (ks.map kv)] = some (.row true 5 (ks.map kv)) := by
 intro ks hc1
 refine kgr_eq (fun xs0 rr r2 h h2 => ?_) ⟨ks, hc1, rfl, rfl⟩
 obtain ⟨ks1, _, e1, rfl⟩ := h; obtain ⟨ks2, _, e2, rfl⟩ := h2
 rw [e1] at e2
 simp only [List.cons.injEq, A.int.injEq, A.bool.injEq, A.agg.injEq, A.row.injEq, A.fn.injEq, A.rp.injEq, insv_inj, iv_inj, true_and, and_true] at e2
 simp [e2]
end Go.Proofs.Ytimgfinlbhodhaa.Ab
