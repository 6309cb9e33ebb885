/- What three steps of a small program come to: plain lemmas. -/
import Derived.Test.YtimgfinlbhodhaaFwGd
namespace Go.Proofs.Ytimgfinlbhodhaa.Ab
open Go
set_option linter.unusedVariables false
set_option linter.unusedSimpArgs false
set_option linter.unusedSectionVars false
theorem bv_eq (x : Int) : bv x = [.int .u8 x] := rfl
theorem pureLL_bv (l : List Int) : pureLL (l.map bv) = true := pureLL_all (fun _ => rfl) l
theorem bv_inj {l l' : List Int} : l.map bv = l'.map bv ↔ l = l' := ⟨map_inj (fun x y h => by simpa [bv] using h), fun h => by rw [h]⟩
structure BW (bs : List Int) : Prop where
 ok : ∀ x ∈ bs, 0 ≤ x ∧ x ≤ 255
section
variable {op x y : Int} (hop : op = 4 ∨ op = 5 ∨ op = 6 ∨ op = 7) (hx : -999999 ≤ x ∧ x ≤ 999999) (hy : -999999 ≤ y ∧ y ≤ 999999)
include hop hx hy
end
end Go.Proofs.Ytimgfinlbhodhaa.Ab
