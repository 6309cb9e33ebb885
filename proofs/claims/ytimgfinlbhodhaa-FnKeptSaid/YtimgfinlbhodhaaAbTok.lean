/- What three steps of a small program come to: plain lemmas. -/
import Derived.Test.YtimgfinlbhodhaaFwGd
namespace Go.Proofs.Ytimgfinlbhodhaa.Ab
open Go
set_option linter.unusedVariables false
set_option linter.unusedSimpArgs false
set_option linter.unusedSectionVars false
theorem bv_inj {l l' : List Int} : l.map bv = l'.map bv ↔ l = l' := ⟨map_inj (fun x y h => by simpa [bv] using h), fun h => by rw [h]⟩
structure BW (bs : List Int) : Prop where
 ok : ∀ x ∈ bs, 0 ≤ x ∧ x ≤ 255
def atO (bs : List Int) (k : Int) : Int := if k < (bs.length : Int) then bs.getD k.toNat default else (k * 37 + (bs.length : Int) * 11).tmod 256
theorem atO_ok {bs : List Int} (h : BW bs) {k : Int} (h0 : 0 ≤ k) : 0 ≤ atO bs k ∧ atO bs k ≤ 255 := by
 unfold atO
 split
 ·have hk : k.toNat < bs.length := by omega
  have := h.ok _ (List.getElem_mem hk)
  rw [List.getD_eq_getElem?_getD, List.getElem?_eq_getElem hk]
  exact this
 ·have h1 := tmod_lt (k * 37 + (bs.length : Int) * 11) 256 (by omega)
  rcases tmod_cases (k * 37 + (bs.length : Int) * 11) 256 (by omega) with ⟨_, e⟩ | ⟨h2, _⟩
  ·rw [e] at h1 ⊢; omega
  ·omega
section
variable {op x y : Int} (hop : op = 4 ∨ op = 5 ∨ op = 6 ∨ op = 7) (hx : -999999 ≤ x ∧ x ≤ 999999) (hy : -999999 ≤ y ∧ y ≤ 999999)
include hop hx hy
end
end Go.Proofs.Ytimgfinlbhodhaa.Ab
