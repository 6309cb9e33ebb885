/- Data of states. -/
import Derived.Test.YtdcjlemkegifjaaGreatAbRead2
import Derived.Test.YtdcjlemkegifjaaGreatAbRead3
namespace Go.Proofs.YtdcjlemkegifjaaGreat.Ab
open Go
theorem typed_avs {es : List (List A)} (h : ∀ e ∈ es, TypedL reachBytes [.int .i64, .row 1 8 [.int .i64]] e) : ∃ l : List AT, es = l.map av ∧ XW l := by
 induction es with
 | nil => exact ⟨[], rfl, fun _ h => by simp at h⟩
 | cons e es ih =>
  obtain ⟨l, rfl, hl⟩ := ih (fun x hx => h x (by simp [hx]))
  obtain ⟨pc, rs, rfl, hr⟩ := typed_actor (h e (by simp))
  refine ⟨⟨pc, rs⟩ :: l, rfl, fun x hx => ?_⟩
  rcases List.mem_cons.1 hx with rfl | hx
  ·exact hr
  ·exact hl x hx
theorem typed_state {xs : List A} (h : TypedL reachBytes [.row 2 32 [.int .i64, .row 1 8 [.int .i64]], .row 1 24 [.row 1 8 [.int .i64]], .row 1 24 [.row 1 8 [.int .i64]], .int .i64] xs) :
  ∃ (ac : List AT) (qs hs : List (List Int)) (t : Int), xs = [.row false 2 (ac.map av), .row false 1 (qs.map ivL), .row false 1 (hs.map ivL), .int .i64 t] ∧ XW ac ∧ ac.length < 4398046511104 ∧ qs.length < 5864062014805 ∧ LW qs ∧ hs.length < 5864062014805 ∧ LW hs := by
 rw [TypedL] at h
 obtain ⟨_, _, rfl, h1, h⟩ := h
 rw [TypedL] at h
 obtain ⟨_, _, rfl, h2, h⟩ := h
 rw [TypedL] at h
 obtain ⟨_, _, rfl, h3, h⟩ := h
 obtain ⟨t, rfl, _⟩ := typed_int h
 rw [Typed] at h1 h2 h3
 obtain ⟨e1, rfl, b1, g1⟩ := h1
 obtain ⟨e2, rfl, b2, g2⟩ := h2
 obtain ⟨e3, rfl, b3, g3⟩ := h3
 obtain ⟨l1, rfl, k1⟩ := typed_avs g1
 obtain ⟨l2, rfl, k2⟩ := typed_rows g2
 obtain ⟨l3, rfl, k3⟩ := typed_rows g3
 have : reachBytes = 140737488351232 := rfl
 simp only [List.length_map] at b1 b2 b3
 exact ⟨l1, l2, l3, t, rfl, k1, by omega, by omega, k2, by omega, k3⟩
end Go.Proofs.YtdcjlemkegifjaaGreat.Ab
