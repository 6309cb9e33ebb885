/- Walks of functions of the program: what each answers, for all arguments that meet its conditions. -/
import Derived.Test.YticgaflgbljhlaaAbState
import Derived.Test.YticgaflgbljhlaaAbH2
import Derived.Test.YticgaflgbljhlaaAbAutoH
namespace Go.Proofs.Yticgaflgbljhlaa.Ab
open Go
set_option linter.unusedVariables false
set_option linter.unusedSimpArgs false
set_option maxHeartbeats 4000000

theorem ok_l5Ends : Kn.ok Try.prog (kof [(69, q_l1Begins)]) := kof_cons k_l1Begins ((kof_nil _))
theorem l5Ends_ac (a : List Int) (b : List Int) (hc1 : a.length < 17592186044416) (hc2 : b.length < 17592186044416) : AC Try.prog 70 [.row false 1 (a.map iv), .row false 1 (b.map iv)] (.bool (endB a b)) := by
  have e_l1Begins := e_l1Begins
  have hft : (false == true) = false := rfl
  have htf : (true == false) = false := rfl
  refine AC.of tab_ok Try.func70 rfl (Nat.le_of_ble_eq_true rfl) fun w0 S0 => ?_
  change G _ _ ⟨[(0, .row false 1 (a.map iv)), (1, .row false 1 (b.map iv))], [], 21⟩
  apply G.seq
  refine G.rg tab_ok ok_l5Ends (hk := ?_)
  apply G.seq
  rcases (show (a.length : Int) ≤ (b.length : Int) ∨ ¬ (a.length : Int) ≤ (b.length : Int) by omega) with c1 | c1
  · skip
    have c2 : a.length ≤ b.length := by omega
    have hw0 : IntKind.i64.wrap ((b.length : Int) - (a.length : Int)) = ((b.length - a.length : Nat) : Int) := by rw [wrap64 (by omega) (by omega)]; omega
    have c3 : b.length - a.length ≤ b.length := by omega
    have hdr : List.drop (b.length - a.length) (b.map iv) = (b.drop (b.length - a.length)).map iv := (List.map_drop ..).symm
    have hlt : b.length - (b.length - a.length) < 17592186044416 := by omega
    have hct : List.take b.length (b.map iv) = b.map iv := List.take_of_length_le (by simp)
    refine G.rgN 5 tab_ok ok_l5Ends (hk := ?_)
    refine G.rdC tab_ok ok_l5Ends (hk := ?_)
    refine G.fin tab_ok (hr := ?_)
    simp only [oneOrTup]
    congr 1
    exact endB_beg c2
  · skip
    refine G.rgN 5 tab_ok ok_l5Ends (hk := ?_)
    refine G.rdC tab_ok ok_l5Ends (hk := ?_)
    refine G.fin tab_ok (hr := ?_)
    simp only [oneOrTup]
    congr 1
    exact (endB_long (by omega)).symm
def r_l5Ends (xs0 : List A) (rr : A) : Prop := ∃ (a : List Int) (b : List Int), (a.length < 17592186044416) ∧ (b.length < 17592186044416) ∧ xs0 = [.row false 1 (a.map iv), .row false 1 (b.map iv)] ∧ rr = .bool (endB a b)
noncomputable def q_l5Ends : List A → Option A := kgr r_l5Ends
theorem k_l5Ends : KOk Try.prog (70, q_l5Ends) := kgr_ok (enters_of Try.func70 rfl rfl) (by rintro xs0 rr ⟨a, b, hc1, hc2, rfl, rfl⟩; exact l5Ends_ac a b hc1 hc2)
theorem e_l5Ends : ∀ (a : List Int) (b : List Int), (a.length < 17592186044416) → (b.length < 17592186044416) → q_l5Ends [.row false 1 (a.map iv), .row false 1 (b.map iv)] = some (.bool (endB a b)) := by
  intro a b hc1 hc2
  refine kgr_eq (fun xs0 rr r2 h h2 => ?_) ⟨a, b, hc1, hc2, rfl, rfl⟩
  obtain ⟨a1, b1, _, _, e1, rfl⟩ := h; obtain ⟨a2, b2, _, _, e2, rfl⟩ := h2
  rw [e1] at e2
  simp only [List.cons.injEq, A.int.injEq, A.bool.injEq, A.agg.injEq, A.row.injEq, A.fn.injEq, A.rp.injEq, insv_inj, iv_inj, true_and, and_true] at e2
  simp [e2]

end Go.Proofs.Yticgaflgbljhlaa.Ab
