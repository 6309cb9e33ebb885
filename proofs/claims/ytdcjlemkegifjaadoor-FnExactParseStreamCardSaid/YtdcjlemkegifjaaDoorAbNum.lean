/- Numerals and joined numerals: plain. -/
import Derived.Test.YtdcjlemkegifjaaDoorAbStrOps
import Derived.Test.YtdcjlemkegifjaaDoorAbA2
import Derived.Lib.ItoaLen
import Derived.Lib.Join
namespace Go.Proofs.YtdcjlemkegifjaaDoor.Ab
open Go
set_option linter.unusedVariables false
set_option linter.unusedSimpArgs false
theorem tok_iffN {x : Int} : tok x = true ↔ -999999 ≤ x ∧ x ≤ 999999 := by simp [tok, inR]
def dgB (u : Nat) : UInt8 := UInt8.ofNat (48 + u % 10)
theorem dgB_nat (u : Nat) : ((dgB u).toNat : Int) = 48 + (u : Int) % 10 := by
 unfold dgB
 have : (UInt8.ofNat (48 + u % 10)).toNat = 48 + u % 10 := by
  rw [UInt8.toNat_ofNat']
  omega
 rw [this]
 omega
theorem dd_small {m : Nat} (h : m < 10) : Lib.decDigits m = [dgB m] := by
 rw [Lib.decDigits_one h]
 unfold dgB
 rw [Nat.mod_eq_of_lt h]
theorem dd_big {m : Nat} (h : ¬ m < 10) : Lib.decDigits m = Lib.decDigits (m / 10) ++ [dgB m] := by
 rw [Lib.decDigits, dif_neg h]
 rfl
theorem take_snocN {α : Type} [Inhabited α] {l : List α} {j : Nat} (h : j < l.length) : l.take j ++ [l.getD j default] = l.take (j + 1) := by
 rw [List.take_add_one, List.getElem?_eq_getElem h, List.getD_eq_getElem?_getD, List.getElem?_eq_getElem h]
 rfl
end Go.Proofs.YtdcjlemkegifjaaDoor.Ab
