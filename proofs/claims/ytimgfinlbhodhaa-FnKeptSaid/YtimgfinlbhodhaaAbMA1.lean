/- Walks of functions. -/
import Derived.Test.YtimgfinlbhodhaaAbMono2
import Derived.Test.YtimgfinlbhodhaaFwGj
namespace Go.Proofs.Ytimgfinlbhodhaa.Ab
open Go
set_option linter.unusedVariables false
set_option linter.unusedSimpArgs false
set_option maxHeartbeats 4000000
theorem ok_specIsPrefix : Kn.ok Try.prog (kof [(75, q_specIsStream), (76, q_l1Begins)]) := kof_cons k_specIsStream (kof_cons k_l1Begins ((kof_nil _)))
theorem specIsPrefix_ac (a : List Int) (b : List Int) (hc1 : a.length < 17592186044416) (hc2 : b.length < 17592186044416) : AC Try.prog 20 [.row false 1 (a.map iv), .row false 1 (b.map iv)] (.bool (pfxB a b)) := by
 have e_specIsStream := e_specIsStream
 have e_l1Begins := e_l1Begins
 refine AC.of tab_ok Try.func20 rfl (Nat.le_of_ble_eq_true rfl) fun w0 S0 => ?_
 change G _ _ ⟨[(0, .row false 1 (a.map iv)), (1, .row false 1 (b.map iv))], [], 16⟩
 apply G.seq
 refine G.rg tab_ok ok_specIsPrefix (hk := ?_)
 apply G.seq
 rcases (show strOk a = false ∨ (strOk a = true ∧ strOk b = false) ∨ (strOk a = true ∧ strOk b = true) by cases strOk a <;> cases strOk b <;> simp) with c1 | ⟨c1, c2⟩ | ⟨c1, c2⟩
 ·skip
  refine G.rgN 3 tab_ok ok_specIsPrefix (hk := ?_)
  refine G.rdC tab_ok ok_specIsPrefix (hk := ?_)
  refine G.fin tab_ok (hr := ?_)
  simp only [oneOrTup, pfxB, c1, Bool.false_and]
 ·skip
  refine G.rgN 3 tab_ok ok_specIsPrefix (hk := ?_)
  refine G.rdC tab_ok ok_specIsPrefix (hk := ?_)
  refine G.fin tab_ok (hr := ?_)
  simp only [oneOrTup, pfxB, c2, Bool.false_and, Bool.and_false]
 ·skip
  refine G.rgN 3 tab_ok ok_specIsPrefix (hk := ?_)
  refine G.rdC tab_ok ok_specIsPrefix (hk := ?_)
  refine G.fin tab_ok (hr := ?_)
  simp only [oneOrTup, pfxB, c1, c2, Bool.true_and]
def r_specIsPrefix (xs0 : List A) (rr : A) : Prop := ∃ (a : List Int) (b : List Int), (a.length < 17592186044416) ∧ (b.length < 17592186044416) ∧ xs0 = [.row false 1 (a.map iv), .row false 1 (b.map iv)] ∧ rr = .bool (pfxB a b)
noncomputable def q_specIsPrefix : List A → Option A := kgr r_specIsPrefix
theorem k_specIsPrefix : KOk Try.prog (20, q_specIsPrefix) := kgr_ok (enters_of Try.func20 rfl rfl) (by rintro xs0 rr ⟨a, b, hc1, hc2, rfl, rfl⟩; exact specIsPrefix_ac a b hc1 hc2)
theorem e_specIsPrefix : ∀ (a : List Int) (b : List Int), (a.length < 17592186044416) → (b.length < 17592186044416) → q_specIsPrefix [.row false 1 (a.map iv), .row false 1 (b.map iv)] = some (.bool (pfxB a b)) := by
 intro a b hc1 hc2
 refine kgr_eq (fun xs0 rr r2 h h2 => ?_) ⟨a, b, hc1, hc2, rfl, rfl⟩
 obtain ⟨a1, b1, _, _, e1, rfl⟩ := h; obtain ⟨a2, b2, _, _, e2, rfl⟩ := h2
 rw [e1] at e2
 simp only [List.cons.injEq, A.int.injEq, A.bool.injEq, A.agg.injEq, A.row.injEq, A.fn.injEq, A.rp.injEq, insv_inj, iv_inj, true_and, and_true] at e2
 simp [e2]
end Go.Proofs.Ytimgfinlbhodhaa.Ab
