/- Walks of functions of the program: what each answers, for all arguments that meet its conditions; and the plain definitions that tell it. -/
import Derived.Test.YtahcojaklooliaaFwGd
import Derived.Test.YtahcojaklooliaaFwGe
import Derived.Test.YtahcojaklooliaaFwGa
namespace Go.Proofs.Ytahcojaklooliaa.Ab
open Go
set_option linter.unusedVariables false
set_option linter.unusedSimpArgs false
set_option maxHeartbeats 4000000
theorem l3Has_ac (ps : List PG) (ks : List LK) (p : Int)  : AC Try.prog 69 [.agg [.row false 3 (ps.map pv), .row false 5 (ks.map kv)], .int .i64 p] (.bool (hasP ps p)) := by
  refine AC.of tab_ok Try.func69 rfl (Nat.le_of_ble_eq_true rfl) fun w0 S0 => ?_
  change G _ _ ⟨[(0, .agg [.row false 3 (ps.map pv), .row false 5 (ks.map kv)]), (1, .int .i64 p)], [], 14⟩
  apply G.seq
  refine G.rg tab_ok (kof_nil _) (hk := ?_)
  apply G.seq
  refine G.rg tab_ok (kof_nil _) (hk := ?_)
  refine G.fin tab_ok (hr := ?_)
  rfl
def r_l3Has (xs0 : List A) (rr : A) : Prop := ∃ (ps : List PG) (ks : List LK) (p : Int), xs0 = [.agg [.row false 3 (ps.map pv), .row false 5 (ks.map kv)], .int .i64 p] ∧ rr = .bool (hasP ps p)
noncomputable def q_l3Has : List A → Option A := kgr r_l3Has
theorem k_l3Has : KOk Try.prog (69, q_l3Has) := kgr_ok (enters_of Try.func69 rfl rfl) (by rintro xs0 rr ⟨ps, ks, p, rfl, rfl⟩; exact l3Has_ac ps ks p)
theorem e_l3Has : ∀ (ps : List PG) (ks : List LK) (p : Int), q_l3Has [.agg [.row false 3 (ps.map pv), .row false 5 (ks.map kv)], .int .i64 p] = some (.bool (hasP ps p)) := by
  intro ps ks p
  refine kgr_eq (fun xs0 rr r2 h h2 => ?_) ⟨ps, ks, p, rfl, rfl⟩
  obtain ⟨ps1, ks1, p1, e1, rfl⟩ := h; obtain ⟨ps2, ks2, p2, e2, rfl⟩ := h2
  rw [e1] at e2
  simp only [List.cons.injEq, A.int.injEq, A.agg.injEq, A.row.injEq, pv_inj, kv_inj, true_and, and_true] at e2
  obtain ⟨⟨e3, e4⟩, e5⟩ := e2
  subst e3 e4 e5
  rfl
