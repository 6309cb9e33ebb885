/- Data of rows of rows. -/
import Derived.Test.YticgaflgbljhlaaFwB
import Derived.Test.YticgaflgbljhlaaFwGd
namespace Go.Proofs.Yticgaflgbljhlaa.Ab
open Go
theorem typed_rows {es : List (List A)} (h : ∀ e ∈ es, TypedL reachBytes [.row 1 8 [.int .i64]] e) : ∃ l : List (List Int), es = l.map ivL ∧ LW l := by
  induction es with
  | nil => exact ⟨[], rfl, fun _ h => by simp at h⟩
  | cons e es ih =>
    obtain ⟨l, rfl, hl⟩ := ih (fun x hx => h x (by simp [hx]))
    obtain ⟨r, rfl, hr⟩ := typed_introw (h e (by simp))
    refine ⟨r :: l, rfl, fun x hx => ?_⟩
    rcases List.mem_cons.1 hx with rfl | hx
    · exact hr
    · exact hl x hx
theorem typed_intss {xs : List A} (h : TypedL reachBytes [.row 1 24 [.row 1 8 [.int .i64]]] xs) : ∃ (ins : List (List Int)), xs = [.row false 1 (ins.map ivL)] ∧ ins.length < 5864062014805 ∧ LW ins := by
  rw [TypedL] at h
  obtain ⟨_, _, rfl, h3, h⟩ := h
  rw [TypedL] at h
  subst h
  rw [Typed] at h3
  obtain ⟨es, rfl, hb, he⟩ := h3
  obtain ⟨l, rfl, hl⟩ := typed_rows he
  refine ⟨l, rfl, ?_, hl⟩
  have : reachBytes = 140737488351232 := rfl
  simp only [List.length_map] at hb
  omega
end Go.Proofs.Yticgaflgbljhlaa.Ab
