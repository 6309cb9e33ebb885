/- Data of rows of rows. -/
import Derived.Test.YtdcjlemkegifjaaGreatFwGd
namespace Go.Proofs.YtdcjlemkegifjaaGreat.Ab
open Go
theorem typed_rows {es : List (List A)} (h : ∀ e ∈ es, TypedL reachBytes [.row 1 8 [.int .i64]] e) : ∃ l : List (List Int), es = l.map ivL ∧ LW l := by
 induction es with
 | nil => exact ⟨[], rfl, fun _ h => by simp at h⟩
 | cons e es ih =>
  obtain ⟨l, rfl, hl⟩ := ih (fun x hx => h x (by simp [hx]))
  obtain ⟨r, rfl, hr⟩ := typed_introw (h e (by simp))
  refine ⟨r :: l, rfl, fun x hx => ?_⟩
  rcases List.mem_cons.1 hx with rfl | hx
  ·exact hr
  ·exact hl x hx
end Go.Proofs.YtdcjlemkegifjaaGreat.Ab
