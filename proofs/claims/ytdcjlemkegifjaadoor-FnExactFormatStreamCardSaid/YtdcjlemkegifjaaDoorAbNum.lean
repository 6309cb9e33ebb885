/- Numerals and joined numerals: plain. -/
import Derived.Test.YtdcjlemkegifjaaDoorAbStrOps
import Derived.Test.YtdcjlemkegifjaaDoorAbA2
import Derived.Lib.ItoaLen
import Derived.Lib.Join
namespace Go.Proofs.YtdcjlemkegifjaaDoor.Ab
open Go
set_option linter.unusedVariables false
set_option linter.unusedSimpArgs false
theorem tok_iffN {x : Int} : tok x = true ↔ -999999 ≤ x ∧ x ≤ 999999 := by simp [tok, inR]
def dgB (u : Nat) : UInt8 := UInt8.ofNat (48 + u % 10)
theorem dgB_nat (u : Nat) : ((dgB u).toNat : Int) = 48 + (u : Int) % 10 := by
 unfold dgB
 have : (UInt8.ofNat (48 + u % 10)).toNat = 48 + u % 10 := by
  rw [UInt8.toNat_ofNat']
  omega
 rw [this]
 omega
theorem dd_small {m : Nat} (h : m < 10) : Lib.decDigits m = [dgB m] := by
 rw [Lib.decDigits_one h]
 unfold dgB
 rw [Nat.mod_eq_of_lt h]
theorem dd_big {m : Nat} (h : ¬ m < 10) : Lib.decDigits m = Lib.decDigits (m / 10) ++ [dgB m] := by
 rw [Lib.decDigits, dif_neg h]
 rfl
def numA (m : Nat) (acc : List UInt8) : List UInt8 := if m = 0 then acc else Lib.decDigits m ++ acc
theorem numA_zero (acc : List UInt8) : numA 0 acc = acc := rfl
theorem numA_step {m : Nat} (h : 0 < m) (acc : List UInt8) : numA (m / 10) (dgB m :: acc) = numA m acc := by
 unfold numA
 rw [if_neg (show ¬ m = 0 by omega)]
 by_cases h1 : m < 10
 ·rw [if_pos (by omega), dd_small h1]; rfl
 ·rw [if_neg (by omega), dd_big h1]; simp
theorem numA_start (u : Nat) : numA (u / 10) [dgB u] = Lib.decDigits u := by
 by_cases h1 : u < 10
 ·unfold numA; rw [if_pos (by omega), dd_small h1]
 ·unfold numA; rw [if_neg (by omega), dd_big h1]
theorem numA_len (m : Nat) (acc : List UInt8) : acc.length ≤ (numA m acc).length := by
 unfold numA
 split
 ·exact Nat.le_refl _
 ·simp
theorem dd_len {u : Nat} (h : u ≤ 4611686018427387904) : (Lib.decDigits u).length ≤ 21 := by
 rw [Lib.decDigits_length]
 have := Lib.nDigits_le20 u (by omega)
 omega
theorem dg_w1 {u : Nat} (h : u ≤ 4611686018427387904) : IntKind.i64.wrap (48 + (u : Int).tmod 10) = ((dgB u).toNat : Int) := by
 have e : (u : Int).tmod 10 = (u : Int) % 10 := Int.tmod_eq_emod_of_nonneg (by omega)
 rw [e, dgB_nat, wrap64 (by omega) (by omega)]
theorem dg_w2 (u : Nat) : IntKind.u8.wrap ((dgB u).toNat : Int) = ((dgB u).toNat : Int) := by
 have := (dgB u).toNat_lt
 have h : ((dgB u).toNat : Int) < 256 := by omega
 unfold IntKind.wrap
 simp [IntKind.bits, IntKind.signed]
 omega
theorem dg_q {u : Nat} (h : u ≤ 4611686018427387904) : IntKind.i64.wrap ((u : Int).tdiv 10) = ((u / 10 : Nat) : Int) := by
 have e : (u : Int).tdiv 10 = (u : Int) / 10 := Int.tdiv_eq_ediv_of_nonneg (by omega)
 rw [e, wrap64 (by omega) (by omega)]
 omega
theorem itoa_len {n : Int} (h0 : -4611686018427387904 ≤ n) (h1 : n ≤ 4611686018427387904) : (Lib.itoa n).length ≤ 21 := Lib.itoa_length_le n (by omega) (by omega)
def fmtL (rs : List Int) : List UInt8 := Lib.join (rs.map Lib.itoa) [44]
def fmtO (rs : List Int) : List UInt8 := if strOk rs then (if rs = [] then [46] else fmtL rs) else []
theorem fmtL_eq {rs : List Int} (h : 0 < rs.length) : fmtL rs = Lib.itoa (rs.getD 0 default) ++ Lib.joinTail [44] ((rs.drop 1).map Lib.itoa) := by
 cases rs with
 | nil => simp at h
 | cons y ys => unfold fmtL; rw [List.map_cons, Lib.join_cons]; rfl
theorem tail_snoc {ds : List Int} {j : Nat} (h : j < ds.length) : Lib.joinTail [44] ((ds.take (j + 1)).map Lib.itoa) = Lib.joinTail [44] ((ds.take j).map Lib.itoa) ++ [44] ++ Lib.itoa (ds.getD j default) := by
 rw [List.map_take, List.map_take]
 exact Lib.joinTail_take_succ [44] (ds.map Lib.itoa) j (Lib.itoa (ds.getD j default)) (by rw [List.getElem?_map, List.getD_eq_getElem?_getD, List.getElem?_eq_getElem h]; rfl)
theorem lens_le {xs : List (List UInt8)} {c : Nat} (h : ∀ x ∈ xs, x.length ≤ c) : Lib.lens xs ≤ c * xs.length := by
 induction xs with
 | nil => simp [Lib.lens]
 | cons x xs ih =>
  have h1 := h x (by simp)
  have h2 := ih (fun y hy => h y (by simp [hy]))
  simp only [Lib.lens, List.map_cons, List.sum_cons, List.length_cons, Nat.mul_succ] at h2 ⊢
  omega
theorem tail_len {ds : List Int} (h : ∀ x ∈ ds, tok x = true) : (Lib.joinTail [44] (ds.map Lib.itoa)).length ≤ 22 * ds.length := by
 rw [Lib.joinTail_length]
 have := lens_le (xs := ds.map Lib.itoa) (c := 21) (fun x hx => by
  obtain ⟨y, hy, rfl⟩ := List.mem_map.1 hx
  have := tok_iffN.1 (h y hy)
  exact itoa_len (by omega) (by omega))
 simp only [List.length_map, List.length_cons, List.length_nil] at this ⊢
 omega
theorem fmtL_len {rs : List Int} (h : ∀ x ∈ rs, tok x = true) (hl : (rs.length : Int) ≤ 400) : (fmtL rs).length ≤ 22 * 400 := by
 cases rs with
 | nil => simp [fmtL, Lib.join_nil]
 | cons y ys =>
  unfold fmtL
  rw [List.map_cons, Lib.join_cons, List.length_append]
  have h1 := tail_len (ds := ys) (fun x hx => h x (by simp [hx]))
  have h2 := tok_iffN.1 (h y (by simp))
  have h3 := itoa_len (n := y) (by omega) (by omega)
  simp only [List.length_cons] at hl
  omega
theorem take_snocN {α : Type} [Inhabited α] {l : List α} {j : Nat} (h : j < l.length) : l.take j ++ [l.getD j default] = l.take (j + 1) := by
 rw [List.take_add_one, List.getElem?_eq_getElem h, List.getD_eq_getElem?_getD, List.getElem?_eq_getElem h]
 rfl
end Go.Proofs.YtdcjlemkegifjaaDoor.Ab
