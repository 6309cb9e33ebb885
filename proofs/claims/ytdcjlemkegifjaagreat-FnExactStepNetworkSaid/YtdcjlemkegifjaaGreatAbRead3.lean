/- Data of networks. -/
import Derived.Test.YtdcjlemkegifjaaGreatFwGd
namespace Go.Proofs.YtdcjlemkegifjaaGreat.Ab
open Go
theorem typed_pv {e : List A} (h : TypedL reachBytes [.int .i64, .int .i64, .row 4 32 [.int .i64, .int .i64, .int .i64, .int .i64]] e) : ∃ p : PG, e = pv p ∧ p.l.length < 4398046511104 := by
 obtain ⟨i, o, l, rfl, hl⟩ := typed_prog h
 exact ⟨⟨i, o, l⟩, rfl, hl⟩
theorem typed_kv {xs : List A} (h : TypedL reachBytes [.int .i64, .int .i64, .int .i64, .int .i64, .row 1 8 [.int .i64]] xs) : ∃ x : LK, xs = kv x ∧ x.tk.length < 17592186044416 := by
 rw [TypedL] at h
 obtain ⟨_, _, rfl, h1, h⟩ := h
 rw [TypedL] at h
 obtain ⟨_, _, rfl, h2, h⟩ := h
 rw [TypedL] at h
 obtain ⟨_, _, rfl, h3, h⟩ := h
 rw [TypedL] at h
 obtain ⟨_, _, rfl, h4, h⟩ := h
 simp only [Typed] at h1 h2 h3 h4
 obtain ⟨a, rfl, _⟩ := h1
 obtain ⟨b, rfl, _⟩ := h2
 obtain ⟨c, rfl, _⟩ := h3
 obtain ⟨d, rfl, _⟩ := h4
 obtain ⟨r, rfl, hr⟩ := typed_introw h
 exact ⟨⟨a, b, c, d, r⟩, rfl, hr⟩
theorem typed_pvs {es : List (List A)} (h : ∀ e ∈ es, TypedL reachBytes [.int .i64, .int .i64, .row 4 32 [.int .i64, .int .i64, .int .i64, .int .i64]] e) : ∃ l : List PG, es = l.map pv ∧ NW l := by
 induction es with
 | nil => exact ⟨[], rfl, fun _ h => by simp at h⟩
 | cons e es ih =>
  obtain ⟨l, rfl, hl⟩ := ih (fun x hx => h x (by simp [hx]))
  obtain ⟨r, rfl, hr⟩ := typed_pv (h e (by simp))
  refine ⟨r :: l, rfl, fun x hx => ?_⟩
  rcases List.mem_cons.1 hx with rfl | hx
  ·exact hr
  ·exact hl x hx
theorem typed_kvs {es : List (List A)} (h : ∀ e ∈ es, TypedL reachBytes [.int .i64, .int .i64, .int .i64, .int .i64, .row 1 8 [.int .i64]] e) : ∃ l : List LK, es = l.map kv ∧ KW l := by
 induction es with
 | nil => exact ⟨[], rfl, fun _ h => by simp at h⟩
 | cons e es ih =>
  obtain ⟨l, rfl, hl⟩ := ih (fun x hx => h x (by simp [hx]))
  obtain ⟨r, rfl, hr⟩ := typed_kv (h e (by simp))
  refine ⟨r :: l, rfl, fun x hx => ?_⟩
  rcases List.mem_cons.1 hx with rfl | hx
  ·exact hr
  ·exact hl x hx
theorem typed_net {xs : List A} (h : TypedL reachBytes [.row 3 40 [.int .i64, .int .i64, .row 4 32 [.int .i64, .int .i64, .int .i64, .int .i64]], .row 5 56 [.int .i64, .int .i64, .int .i64, .int .i64, .row 1 8 [.int .i64]]] xs) :
  ∃ (ps : List PG) (ks : List LK), xs = [.row false 3 (ps.map pv), .row false 5 (ks.map kv)] ∧ NW ps ∧ KW ks ∧ ps.length < 3518437208781 ∧ ks.length < 2513169434844 := by
 rw [TypedL] at h
 obtain ⟨_, _, rfl, h1, h⟩ := h
 rw [TypedL] at h
 obtain ⟨_, _, rfl, h2, h⟩ := h
 rw [TypedL] at h
 subst h
 rw [Typed] at h1 h2
 obtain ⟨es, rfl, hb, he⟩ := h1
 obtain ⟨fs, rfl, hc, hf⟩ := h2
 obtain ⟨l, rfl, hl⟩ := typed_pvs he
 obtain ⟨k, rfl, hk⟩ := typed_kvs hf
 have : reachBytes = 140737488351232 := rfl
 simp only [List.length_map] at hb hc
 exact ⟨l, k, rfl, hl, hk, by omega, by omega⟩
end Go.Proofs.YtdcjlemkegifjaaGreat.Ab
