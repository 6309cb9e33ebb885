/- More tokens in, more tokens out: plain law. -/
import Derived.Test.YtdcjlemkegifjaaGreatAbObs
namespace Go.Proofs.YtdcjlemkegifjaaGreat.Ab
open Go
set_option linter.unusedVariables false
set_option linter.unusedSimpArgs false
def LeL (g h : List (List Int)) : Prop := g.length = h.length ∧ ∀ k, g.getD k default <+: h.getD k default
theorem LeL.refl (g : List (List Int)) : LeL g g := ⟨rfl, fun k => List.prefix_refl _⟩
theorem LeL.trans {a b c : List (List Int)} (h : LeL a b) (k : LeL b c) : LeL a c := ⟨h.1.trans k.1, fun i => (h.2 i).trans (k.2 i)⟩
theorem gset_any {α : Type} [Inhabited α] {l : List α} {i k : Nat} {x : α} : (l.set i x).getD k default = if i = k ∧ i < l.length then x else l.getD k default := by
 simp only [List.getD_eq_getElem?_getD, List.getElem?_set]
 by_cases h : i = k
 ·subst h
  by_cases h2 : i < l.length
  ·simp [h2]
  ·simp [h2]
 ·simp [h]
theorem begB_pfx {a b : List Int} : begB a b = true ↔ a <+: b := by
 unfold begB
 simp only [Bool.and_eq_true, decide_eq_true_eq]
 constructor
 ·rintro ⟨h1, h2⟩; exact ⟨b.drop a.length, by rw [← h2, List.length_take, Nat.min_eq_left h1]; exact List.take_append_drop _ _⟩
 ·rintro h; exact ⟨h.length_le, (List.prefix_iff_eq_take.1 h).symm⟩
section
variable {l : List I4} {ins less : List (List Int)}
end
section
variable {ps : List PG} {ks : List LK} {g h : List (List Int)} {p : Nat}
def itS (ps : List PG) (ks : List LK) (g : List (List Int)) : Nat → List (List Int)
 | 0 => g
 | n + 1 => nxts ps ks (itS ps ks g n)
structure LstW (ps : List PG) (ks : List LK) (h : List (List Int)) (rounds : Int) : Prop where
 net : netOk ps ks = true
 len : h.length = ks.length
 str : h.all strOk = true
 fix : nxts ps ks h = h
 ok : rndOk ps ks h = true
 it : ∃ r : Nat, r < 300 ∧ rounds = (r : Int) + 1 ∧ h = itS ps ks (tkL ks) r ∧ ∀ i ≤ r, rndOk ps ks (itS ps ks (tkL ks) i) = true
end
end Go.Proofs.YtdcjlemkegifjaaGreat.Ab
