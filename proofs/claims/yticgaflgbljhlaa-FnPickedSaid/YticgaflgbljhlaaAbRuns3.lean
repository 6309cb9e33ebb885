/- A run of the sample program that picks. -/
import Derived.Test.YticgaflgbljhlaaAbRuns
namespace Go.Proofs.Yticgaflgbljhlaa.Ab
open Go
set_option linter.unusedVariables false
set_option linter.unusedSimpArgs false
def pickL : List I4 := [(1, 0, 0, 0), (9, 0, 4, 0), (1, 1, 2, 0), (8, 0, 5, 0), (1, 1, 1, 0), (2, 1, 0, 0), (8, 0, 0, 0)]
def pk (c a b : List Int) : Nat → List Int × Nat × Nat
  | 0 => ([], 0, 0)
  | j + 1 => if c.getD j default = 0 then ((pk c a b j).1 ++ [a.getD (pk c a b j).2.1 default], (pk c a b j).2.1 + 1, (pk c a b j).2.2) else ((pk c a b j).1 ++ [b.getD (pk c a b j).2.2 default], (pk c a b j).2.1, (pk c a b j).2.2 + 1)
def pkEnd (c a b : List Int) (j : Nat) : Prop := j = c.length ∨ (j < c.length ∧ c.getD j default = 0 ∧ (pk c a b j).2.1 = a.length) ∨ (j < c.length ∧ c.getD j default ≠ 0 ∧ (pk c a b j).2.2 = b.length)
theorem pk_len (c a b : List Int) : ∀ j, (pk c a b j).1.length = j
  | 0 => rfl
  | j + 1 => by
    rw [pk]
    split <;> simp [pk_len c a b j]
section
variable {c a b : List Int} {n j i k : Nat} {r r2 : Int} {o : List Int}
theorem pick_a (hj : j < c.length) (h0 : c.getD j default = 0) (hi : i < a.length) (ho : o.length < 400) :
    goP pickL [c, a, b] (n + 5) ⟨0, [r, r2, 0, 0], [o], [(j : Int), (i : Int), (k : Int)]⟩ = goP pickL [c, a, b] n ⟨0, [0, a.getD i default, 0, 0], [o ++ [a.getD i default]], [((j + 1 : Nat) : Int), ((i + 1 : Nat) : Int), (k : Int)]⟩ := by
  rw [show n + 5 = n + 4 + 1 from rfl, go_read (a := 0) (b := 0) (c := 0) rfl (by decide) (by show (j : Int) ≠ (c.length : Int); omega)]
  show goP pickL [c, a, b] (n + 3 + 1) ⟨1, [c.getD j default, r2, 0, 0], [o], [(j : Int) + 1, (i : Int), (k : Int)]⟩ = _
  rw [h0, go_zeroY (a := 0) (b := 4) (c := 0) rfl (by decide) (by show 0 < 4; omega) rfl]
  rw [show n + 3 = n + 2 + 1 from rfl, go_read (a := 1) (b := 1) (c := 0) rfl (by decide) (by show (i : Int) ≠ (a.length : Int); omega)]
  show goP pickL [c, a, b] (n + 1 + 1) ⟨5, [0, a.getD i default, 0, 0], [o], [(j : Int) + 1, (i : Int) + 1, (k : Int)]⟩ = _
  rw [go_write (a := 1) (b := 0) (c := 0) rfl (by decide) (by show o.length < 400; exact ho) (by show 1 < 4; omega)]
  show goP pickL [c, a, b] (n + 1) ⟨6, [0, a.getD i default, 0, 0], [o ++ [a.getD i default]], [(j : Int) + 1, (i : Int) + 1, (k : Int)]⟩ = _
  rw [go_jump (a := 0) (b := 0) (c := 0) rfl (by decide) (by show 0 < 4; omega)]
  rfl
theorem pick_b (hj : j < c.length) (h0 : c.getD j default ≠ 0) (hi : k < b.length) (ho : o.length < 400) :
    goP pickL [c, a, b] (n + 6) ⟨0, [r, r2, 0, 0], [o], [(j : Int), (i : Int), (k : Int)]⟩ = goP pickL [c, a, b] n ⟨0, [c.getD j default, b.getD k default, 0, 0], [o ++ [b.getD k default]], [((j + 1 : Nat) : Int), (i : Int), ((k + 1 : Nat) : Int)]⟩ := by
  rw [show n + 6 = n + 5 + 1 from rfl, go_read (a := 0) (b := 0) (c := 0) rfl (by decide) (by show (j : Int) ≠ (c.length : Int); omega)]
  show goP pickL [c, a, b] (n + 4 + 1) ⟨1, [c.getD j default, r2, 0, 0], [o], [(j : Int) + 1, (i : Int), (k : Int)]⟩ = _
  rw [go_zeroN (a := 0) (b := 4) (c := 0) rfl (by decide) (by show 0 < 4; omega) (by show c.getD j default ≠ 0; exact h0)]
  show goP pickL [c, a, b] (n + 3 + 1) ⟨2, [c.getD j default, r2, 0, 0], [o], [(j : Int) + 1, (i : Int), (k : Int)]⟩ = _
  rw [go_read (a := 1) (b := 2) (c := 0) rfl (by decide) (by show (k : Int) ≠ (b.length : Int); omega)]
  show goP pickL [c, a, b] (n + 2 + 1) ⟨3, [c.getD j default, b.getD k default, 0, 0], [o], [(j : Int) + 1, (i : Int), (k : Int) + 1]⟩ = _
  rw [go_jump (a := 0) (b := 5) (c := 0) rfl (by decide) (by show 0 < 4; omega)]
  rw [show n + 2 = n + 1 + 1 from rfl, go_write (a := 1) (b := 0) (c := 0) rfl (by decide) (by show o.length < 400; exact ho) (by show 1 < 4; omega)]
  show goP pickL [c, a, b] (n + 1) ⟨6, [c.getD j default, b.getD k default, 0, 0], [o ++ [b.getD k default]], [(j : Int) + 1, (i : Int), (k : Int) + 1]⟩ = _
  rw [go_jump (a := 0) (b := 0) (c := 0) rfl (by decide) (by show 0 < 4; omega)]
  rfl
end
theorem pick_run {c a b : List Int} {e : Nat} (he : e < 400) (hgood : ∀ j < e, j < c.length ∧ (c.getD j default = 0 → (pk c a b j).2.1 < a.length) ∧ (c.getD j default ≠ 0 → (pk c a b j).2.2 < b.length)) (hend : pkEnd c a b e) :
    ∀ m j f r r2, j + m = e → 6 * m + 2 ≤ f → ∃ pc' rs' u p, goP pickL [c, a, b] f ⟨0, [r, r2, 0, 0], [(pk c a b j).1], [(j : Int), ((pk c a b j).2.1 : Int), ((pk c a b j).2.2 : Int)]⟩ = (⟨pc', rs', [(pk c a b e).1], [u, ((pk c a b e).2.1 : Int), ((pk c a b e).2.2 : Int)]⟩, 2, p)
  | 0, j, f, r, r2, hj, hf => by
    obtain rfl : j = e := by omega
    rcases hend with h | ⟨h, h0, h1⟩ | ⟨h, h0, h1⟩
    · exact ⟨_, _, _, _, go_end (a := 0) (b := 0) (c := 0) rfl (by decide) (by show (j : Int) = (c.length : Int); omega)⟩
    · obtain ⟨f, rfl⟩ : ∃ g, f = g + 1 + 1 := ⟨f - 2, by omega⟩
      rw [go_read (a := 0) (b := 0) (c := 0) rfl (by decide) (by show (j : Int) ≠ (c.length : Int); omega)]
      rw [go_zeroY (a := 0) (b := 4) (c := 0) rfl (by show (0 : Int) + 1 ≠ 7; omega) (by show 0 < 4; omega) (by show c.getD j default = 0; exact h0)]
      exact ⟨_, _, _, _, go_end (a := 1) (b := 1) (c := 0) rfl (by decide) (by show ((pk c a b j).2.1 : Int) = (a.length : Int); omega)⟩
    · obtain ⟨f, rfl⟩ : ∃ g, f = g + 1 + 1 := ⟨f - 2, by omega⟩
      rw [go_read (a := 0) (b := 0) (c := 0) rfl (by decide) (by show (j : Int) ≠ (c.length : Int); omega)]
      rw [go_zeroN (a := 0) (b := 4) (c := 0) rfl (by show (0 : Int) + 1 ≠ 7; omega) (by show 0 < 4; omega) (by show c.getD j default ≠ 0; exact h0)]
      exact ⟨_, _, _, _, go_end (a := 1) (b := 2) (c := 0) rfl (by decide) (by show ((pk c a b j).2.2 : Int) = (b.length : Int); omega)⟩
  | m + 1, j, f, r, r2, hj, hf => by
    obtain ⟨g1, g2, g3⟩ := hgood j (by omega)
    have hl := pk_len c a b j
    by_cases h0 : c.getD j default = 0
    · obtain ⟨f, rfl⟩ : ∃ g, f = g + 5 := ⟨f - 5, by omega⟩
      have ih := pick_run he hgood hend m (j + 1) f 0 (a.getD (pk c a b j).2.1 default) (by omega) (by omega)
      rw [pk, if_pos h0] at ih
      rw [pick_a g1 h0 (g2 h0) (by omega)]
      exact ih
    · obtain ⟨f, rfl⟩ : ∃ g, f = g + 6 := ⟨f - 6, by omega⟩
      have ih := pick_run he hgood hend m (j + 1) f (c.getD j default) (b.getD (pk c a b j).2.2 default) (by omega) (by omega)
      rw [pk, if_neg h0] at ih
      rw [pick_b g1 h0 (g3 h0) (by omega)]
      exact ih
def ctl (bs s : List Int) : Nat → List Int
  | 0 => s
  | j + 1 => if (atO bs (j : Int)).tmod 2 = 0 then (ctl bs s j).set j 0 else ctl bs s j
theorem ctl_len (bs s : List Int) : ∀ j, (ctl bs s j).length = s.length
  | 0 => rfl
  | j + 1 => by
    rw [ctl]
    split
    · rw [List.length_set, ctl_len bs s j]
    · exact ctl_len bs s j
theorem ctl_ok (bs : List Int) {s : List Int} (h : ∀ x ∈ s, -999999 ≤ x ∧ x ≤ 999999) : ∀ j, ∀ x ∈ ctl bs s j, -999999 ≤ x ∧ x ≤ 999999
  | 0 => h
  | j + 1 => by
    intro x hx
    rw [ctl] at hx
    split at hx
    · rcases List.mem_or_eq_of_mem_set hx with hx | hx
      · exact ctl_ok bs h j x hx
      · omega
    · exact ctl_ok bs h j x hx
theorem pk_cnt (c a b : List Int) : ∀ j, (pk c a b j).2.1 + (pk c a b j).2.2 = j
  | 0 => rfl
  | j + 1 => by
    have ih := pk_cnt c a b j
    rw [pk]
    split <;> simp only <;> omega
theorem pk_zero {c a b : List Int} {j : Nat} (h : c.getD j default = 0) : pk c a b (j + 1) = ((pk c a b j).1 ++ [a.getD (pk c a b j).2.1 default], (pk c a b j).2.1 + 1, (pk c a b j).2.2) := by rw [pk, if_pos h]
theorem pk_one {c a b : List Int} {j : Nat} (h : ¬ c.getD j default = 0) : pk c a b (j + 1) = ((pk c a b j).1 ++ [b.getD (pk c a b j).2.2 default], (pk c a b j).2.1, (pk c a b j).2.2 + 1) := by rw [pk, if_neg h]
def pkGood (c a b : List Int) (j : Nat) : Prop := j < c.length ∧ (c.getD j default = 0 → (pk c a b j).2.1 < a.length) ∧ (c.getD j default ≠ 0 → (pk c a b j).2.2 < b.length)
end Go.Proofs.Yticgaflgbljhlaa.Ab
