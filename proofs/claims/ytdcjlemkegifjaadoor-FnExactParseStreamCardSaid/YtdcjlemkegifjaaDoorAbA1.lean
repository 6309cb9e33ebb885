/- Walks of functions. -/
import Derived.Test.YtdcjlemkegifjaaDoorFwGa
namespace Go.Proofs.YtdcjlemkegifjaaDoor.Ab
open Go
set_option linter.unusedVariables false
set_option linter.unusedSimpArgs false
set_option maxHeartbeats 4000000
theorem l1In_ac (x : Int) (a : Int) (b : Int)  : AC Tryd.prog 32 [.int .i64 x, .int .i64 a, .int .i64 b] (.bool (decide (x ≥ a) && decide (x ≤ b))) := by
 refine AC.of tab_ok Tryd.func32 rfl (Nat.le_of_ble_eq_true rfl) fun w0 S0 => ?_
 change G _ _ ⟨[(0, .int .i64 x), (1, .int .i64 a), (2, .int .i64 b)], [], 15⟩
 apply G.seq
 refine G.rg tab_ok (kof_nil _) (hk := ?_)
 apply G.seq
 refine G.rg tab_ok (kof_nil _) (hk := ?_)
 refine G.fin tab_ok (hr := ?_)
 rfl
def r_l1In (xs0 : List A) (rr : A) : Prop := ∃ (x : Int) (a : Int) (b : Int), xs0 = [.int .i64 x, .int .i64 a, .int .i64 b] ∧ rr = .bool (decide (x ≥ a) && decide (x ≤ b))
noncomputable def q_l1In : List A → Option A := kgr r_l1In
theorem k_l1In : KOk Tryd.prog (32, q_l1In) := kgr_ok (enters_of Tryd.func32 rfl rfl) (by rintro xs0 rr ⟨x, a, b, rfl, rfl⟩; exact l1In_ac x a b)
theorem e_l1In : ∀ (x : Int) (a : Int) (b : Int), q_l1In [.int .i64 x, .int .i64 a, .int .i64 b] = some (.bool (decide (x ≥ a) && decide (x ≤ b))) := by
 intro x a b
 refine kgr_eq (fun xs0 rr r2 h h2 => ?_) ⟨x, a, b, rfl, rfl⟩
 obtain ⟨x1, a1, b1, e1, rfl⟩ := h; obtain ⟨x2, a2, b2, e2, rfl⟩ := h2
 rw [e1] at e2
 simp only [List.cons.injEq, A.int.injEq, A.bool.injEq, A.agg.injEq, A.row.injEq, A.fn.injEq, A.rp.injEq, insv_inj, iv_inj, true_and, and_true] at e2
 simp [e2]
theorem ok_l1Token : Kn.ok Tryd.prog (kof [(32, q_l1In)]) := kof_cons k_l1In ((kof_nil _))
def inR (x a b : Int) : Bool := decide (x ≥ a) && decide (x ≤ b)
def tok (x : Int) : Bool := inR x (-999999) 999999
theorem l1Token_ac (x : Int)  : AC Tryd.prog 22 [.int .i64 x] (.bool (tok x)) := by
 have e_l1In := e_l1In
 refine AC.of tab_ok Tryd.func22 rfl (Nat.le_of_ble_eq_true rfl) fun w0 S0 => ?_
 change G _ _ ⟨[(0, .int .i64 x)], [], 5⟩
 apply G.seq
 refine G.rg tab_ok ok_l1Token (hk := ?_)
 apply G.seq
 refine G.rg tab_ok ok_l1Token (hk := ?_)
 refine G.fin tab_ok (hr := ?_)
 rfl
def r_l1Token (xs0 : List A) (rr : A) : Prop := ∃ (x : Int), xs0 = [.int .i64 x] ∧ rr = .bool (tok x)
noncomputable def q_l1Token : List A → Option A := kgr r_l1Token
theorem k_l1Token : KOk Tryd.prog (22, q_l1Token) := kgr_ok (enters_of Tryd.func22 rfl rfl) (by rintro xs0 rr ⟨x, rfl, rfl⟩; exact l1Token_ac x)
theorem e_l1Token : ∀ (x : Int), q_l1Token [.int .i64 x] = some (.bool (tok x)) := by
 intro x
 refine kgr_eq (fun xs0 rr r2 h h2 => ?_) ⟨x, rfl, rfl⟩
 obtain ⟨x1, e1, rfl⟩ := h; obtain ⟨x2, e2, rfl⟩ := h2
 rw [e1] at e2
 simp only [List.cons.injEq, A.int.injEq, A.bool.injEq, A.agg.injEq, A.row.injEq, A.fn.injEq, A.rp.injEq, insv_inj, iv_inj, true_and, and_true] at e2
 simp [e2]
theorem isToken_ac (x : Int)  : AC Tryd.prog 25 [.int .i64 x] (.bool (tok x)) := by
 refine AC.of tab_ok Tryd.func25 rfl (Nat.le_of_ble_eq_true rfl) fun w0 S0 => ?_
 change G _ _ ⟨[(0, .int .i64 x)], [], 9⟩
 apply G.seq
 refine G.rg tab_ok (kof_nil _) (hk := ?_)
 apply G.seq
 refine G.rg tab_ok (kof_nil _) (hk := ?_)
 refine G.fin tab_ok (hr := ?_)
 rfl
def r_isToken (xs0 : List A) (rr : A) : Prop := ∃ (x : Int), xs0 = [.int .i64 x] ∧ rr = .bool (tok x)
noncomputable def q_isToken : List A → Option A := kgr r_isToken
theorem k_isToken : KOk Tryd.prog (25, q_isToken) := kgr_ok (enters_of Tryd.func25 rfl rfl) (by rintro xs0 rr ⟨x, rfl, rfl⟩; exact isToken_ac x)
theorem e_isToken : ∀ (x : Int), q_isToken [.int .i64 x] = some (.bool (tok x)) := by
 intro x
 refine kgr_eq (fun xs0 rr r2 h h2 => ?_) ⟨x, rfl, rfl⟩
 obtain ⟨x1, e1, rfl⟩ := h; obtain ⟨x2, e2, rfl⟩ := h2
 rw [e1] at e2
 simp only [List.cons.injEq, A.int.injEq, A.bool.injEq, A.agg.injEq, A.row.injEq, A.fn.injEq, A.rp.injEq, insv_inj, iv_inj, true_and, and_true] at e2
 simp [e2]
end Go.Proofs.YtdcjlemkegifjaaDoor.Ab
