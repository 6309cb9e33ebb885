/- Rows of bytes in a function's own memory. -/
import Derived.Test.YtimgfinlbhodhaaAbCur
namespace Go.Proofs.Ytimgfinlbhodhaa.Ab
open Go
set_option linter.unusedVariables false
set_option linter.unusedSimpArgs false
theorem roLL_bv (l : List Int) : roLL (l.map bv) = l.map bv := roLL_all (fun _ => rfl) l
theorem noLoanLL_bv (l : List Int) : noLoanLL (l.map bv) = true := noLoanLL_all (fun _ => rfl) l
theorem copyable_bv (l : List Int) : (l.map bv).all (fun y => y.all copyable) = true := by rw [List.all_map, List.all_eq_true]; exact fun x _ => rfl
theorem rnLL_bv (sel : List Nat) (l : List Int) : rnLL sel (l.map bv) = l.map bv := rnLL_pure (pureLL_bv l)
theorem refsLL_bv (l : List Int) : refsLL (l.map bv) = [] := refsLL_pure (pureLL_bv l)
theorem mul_cc {a b M N : Int} (ha : 0 ≤ a ∧ a ≤ M) (hb : 0 ≤ b ∧ b ≤ N) : 0 ≤ a * b ∧ a * b ≤ M * N :=
 ⟨Int.mul_nonneg ha.1 hb.1, Int.mul_le_mul ha.2 hb.2 hb.1 (by omega)⟩
def freshL (bs : List Int) (c : Int) : Nat → List Int
 | 0 => [IntKind.u8.wrap c]
 | j + 1 => freshL bs c j ++ [IntKind.u8.wrap (bs.getD j default * 3 + c * (((j % 7 : Nat) : Int) + 1))]
theorem u8_ok (x : Int) : 0 ≤ IntKind.u8.wrap x ∧ IntKind.u8.wrap x ≤ 255 := by
 simp [IntKind.wrap, IntKind.bits, IntKind.signed]
 omega
theorem freshL_ok (bs : List Int) (c : Int) : ∀ j, ∀ x ∈ freshL bs c j, 0 ≤ x ∧ x ≤ 255
 | 0 => by intro x hx; rw [freshL, List.mem_singleton] at hx; rw [hx]; exact u8_ok c
 | j + 1 => by
  intro x hx
  rw [freshL, List.mem_append, List.mem_singleton] at hx
  rcases hx with hx | hx
  ·exact freshL_ok bs c j x hx
  ·rw [hx]; exact u8_ok _
theorem freshL_len (bs : List Int) (c : Int) : ∀ j, (freshL bs c j).length = j + 1
 | 0 => rfl
 | j + 1 => by simp [freshL, freshL_len bs c j]
def mkFresh (bs : List Int) (c : Int) : List Int := freshL bs c (min bs.length 600)
theorem mkFresh_ok (bs : List Int) (c : Int) : BW (mkFresh bs c) := ⟨freshL_ok _ _ _⟩
theorem mkFresh_len (bs : List Int) (c : Int) : (mkFresh bs c).length ≤ 601 := by
 unfold mkFresh
 rw [freshL_len]
 omega
end Go.Proofs.Ytimgfinlbhodhaa.Ab
