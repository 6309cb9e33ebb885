/- Walks of functions of the program: what each answers, for all arguments that meet its conditions. -/
import Derived.Test.YticgaflgbljhlaaAbP12
import Derived.Test.YticgaflgbljhlaaAbAuto2
namespace Go.Proofs.Yticgaflgbljhlaa.Ab
open Go
set_option linter.unusedVariables false
set_option linter.unusedSimpArgs false
set_option maxHeartbeats 4000000

-- not in this seat: l2Make
def pad4 (x : List Int) : I4 := ((x ++ [0, 0, 0]).getD 0 default, (x ++ [0, 0, 0]).getD 1 default, (x ++ [0, 0, 0]).getD 2 default, (x ++ [0, 0, 0]).getD 3 default)
def cdI (code : List (List Int)) (j : Nat) : List I4 := (code.take j).map pad4
theorem cdI_zero (code : List (List Int)) : cdI code 0 = [] := by simp [cdI]
theorem cdI_full (code : List (List Int)) : cdI code code.length = code.map pad4 := by simp [cdI]
theorem cdI_len (code : List (List Int)) {j : Nat} (h : j ≤ code.length) : (cdI code j).length = j := by simp [cdI]; omega
theorem cdI_succ {code : List (List Int)} {j : Nat} (h : j < code.length) : cdI code (j + 1) = cdI code j ++ [pad4 (code.getD j default)] := by
  simp only [cdI, List.take_succ_eq_append_getElem h, List.map_append, List.map_cons, List.map_nil]
  simp [h]
def ivL (x : List Int) : List A := [.row false 1 (x.map iv)]
theorem ivL_eq (x : List Int) : ivL x = [.row false 1 (x.map iv)] := rfl
theorem pureLL_ivL (l : List (List Int)) : pureLL (l.map ivL) = true := pureLL_all (fun _ => rfl) l
theorem ivL_inj {l l' : List (List Int)} : l.map ivL = l'.map ivL ↔ l = l' := ⟨map_inj (fun x y h => by simpa [ivL, iv_inj] using h), fun h => by rw [h]⟩
theorem cat3 (x : List Int) : x.map iv ++ [[.int .i64 0], [.int .i64 0], [.int .i64 0]] = (x ++ [0, 0, 0]).map iv := by simp [iv]
theorem cdI_pure (code : List (List Int)) (j : Nat) (e : I4) : pureLL (List.map insv (cdI code j) ++ [insv e]) = true := by rw [pureLL_app, pureLL_insv]; rfl

end Go.Proofs.Yticgaflgbljhlaa.Ab
