/- Texts cut at commas, numerals read: plain. -/
import Derived.Test.YtdcjlemkegifjaaDoorAbNum
import Derived.Lib.SplitLaws
import Derived.Lib.AtoiAllCases
namespace Go.Proofs.YtdcjlemkegifjaaDoor.Ab
open Go
set_option linter.unusedVariables false
set_option linter.unusedSimpArgs false
def spl : List UInt8 → List (List UInt8)
 | [] => [[]]
 | b :: l => if b = 44 then [] :: spl l else match spl l with
  | w :: ws => (b :: w) :: ws
  | [] => [[b]]
theorem spl_no : ∀ {l : List UInt8}, (∀ x ∈ l, x ≠ 44) → spl l = [l]
 | [], _ => rfl
 | b :: l, h => by
  have ih := spl_no (l := l) (fun x hx => h x (by simp [hx]))
  unfold spl
  rw [if_neg (h b (by simp)), ih]
theorem spl_at : ∀ {a r : List UInt8}, (∀ x ∈ a, x ≠ 44) → spl (a ++ 44 :: r) = a :: spl r
 | [], r, _ => by simp [spl]
 | b :: a, r, h => by
  have ih := spl_at (a := a) (r := r) (fun x hx => h x (by simp [hx]))
  rw [List.cons_append, spl, if_neg (h b (by simp)), ih]
theorem spl_len : ∀ l : List UInt8, (spl l).length ≤ l.length + 1
 | [] => by simp [spl]
 | b :: l => by
  have ih := spl_len l
  unfold spl
  split
  ·simp only [List.length_cons]; omega
  ·split
   ·rename_i w ws e
    rw [e] at ih
    simp only [List.length_cons] at ih ⊢
    omega
   ·simp
theorem splitK_spl : ∀ l : List UInt8, Lib.splitK [44] 0 (Lib.count l [44]) l = spl l
 | [] => rfl
 | b :: l => by
  have ih := splitK_spl l
  by_cases hb : b = 44
  ·subst hb
   rw [Lib.count_cons_eq, Nat.add_comm 1]
   unfold Lib.splitK
   have hi : Lib.index (44 :: l) [44] = 0 := by rw [Lib.index_one]; simp [Lib.indexByte]
   rw [hi, if_neg (by decide)]
   simp only [Int.toNat_zero, Nat.zero_add, List.take_zero, List.length_cons, List.length_nil, List.drop_succ_cons, List.drop_zero]
   rw [ih]
   simp [spl]
  ·rw [Lib.count_cons_ne _ _ _ hb]
   cases hk : Lib.count l [44] with
   | zero =>
    rw [hk] at ih
    unfold spl
    rw [if_neg hb, ← ih]
    rfl
   | succ k =>
    rw [hk] at ih
    obtain ⟨i, hi⟩ : ∃ i : Nat, Lib.index l [44] = i := by
     have h1 := Lib.index_ge l [44]
     have h2 : Lib.index l [44] ≠ -1 := fun h => by have := Lib.count_miss h; omega
     exact ⟨(Lib.index l [44]).toNat, by omega⟩
    have hi2 : Lib.index (b :: l) [44] = ((i + 1 : Nat) : Int) := by
     rw [Lib.index_one] at hi ⊢
     unfold Lib.indexByte
     have hbe : (b == (44 : UInt8)) = false := by simpa using hb
     simp only [hbe, hi]
     first | (simp; omega) | simp
    unfold Lib.splitK at ih ⊢
    rw [hi] at ih
    rw [hi2]
    rw [if_neg (by first | (simp; done) | (simp; omega))] at ih ⊢
    simp only [Int.toNat_natCast, Nat.add_zero, List.length_cons, List.length_nil, Nat.zero_add, List.take_succ_cons, List.drop_succ_cons] at ih ⊢
    unfold spl
    rw [if_neg hb, ← ih]
theorem splitB_spl (l : List UInt8) : ((Lib.splitB ⟨#[44]⟩ 0 (Lib.countB (sb l) ⟨#[44]⟩) (sb l)).map fun s => s.data.toList) = spl l := by
 rw [Lib.splitB_data]
 exact splitK_spl l
def dig (b : UInt8) : Bool := decide (48 ≤ b.toNat) && decide (b.toNat ≤ 57)
def valU (l : List UInt8) : Nat := l.foldl (fun n b => 10 * n + (b.toNat - 48)) 0
theorem valU_snoc (l : List UInt8) (b : UInt8) : valU (l ++ [b]) = 10 * valU l + (b.toNat - 48) := by simp [valU]
theorem dgB_toNat (u : Nat) : (dgB u).toNat = 48 + u % 10 := by
 have := dgB_nat u
 omega
theorem dgB_dig (u : Nat) : dig (dgB u) = true := by
 unfold dig
 rw [dgB_toNat]
 simp
 omega
theorem dd_dig (u : Nat) : (Lib.decDigits u).all dig = true := by
 induction u using Nat.strongRecOn with
 | _ u ih =>
  by_cases h : u < 10
  ·rw [dd_small h]; simp [dgB_dig]
  ·rw [dd_big h, List.all_append, ih (u / 10) (by omega)]; simp [dgB_dig]
theorem dd_val (u : Nat) : valU (Lib.decDigits u) = u := by
 induction u using Nat.strongRecOn with
 | _ u ih =>
  by_cases h : u < 10
  ·rw [dd_small h, ← List.nil_append [dgB u], valU_snoc, dgB_toNat]; simp [valU]; omega
  ·rw [dd_big h, valU_snoc, ih (u / 10) (by omega), dgB_toNat]; omega
theorem dd_ne (u : Nat) : Lib.decDigits u ≠ [] := by
 by_cases h : u < 10
 ·rw [dd_small h]; simp
 ·rw [dd_big h]; simp
theorem dd_pow : ∀ (k u : Nat), u < 10 ^ (k + 1) → (Lib.decDigits u).length ≤ k + 1
 | 0, u, h => by rw [dd_small (by simpa using h)]; simp
 | k + 1, u, h => by
  by_cases h1 : u < 10
  ·rw [dd_small h1]; simp
  ·rw [dd_big h1, List.length_append]
   have := dd_pow k (u / 10) (by rw [Nat.pow_succ] at h; omega)
   simp only [List.length_cons, List.length_nil]
   omega
theorem dd_first (u : Nat) (hu : 0 < u) : (Lib.decDigits u).getD 0 0 ≠ 48 := by
 induction u using Nat.strongRecOn with
 | _ u ih =>
  by_cases h : u < 10
  ·rw [dd_small h]
   intro e
   have h2 := congrArg UInt8.toNat e
   simp only [List.getD_cons_zero] at h2
   rw [dgB_toNat] at h2
   have : (48 : UInt8).toNat = 48 := rfl
   omega
  ·rw [dd_big h]
   have := ih (u / 10) (by omega) (by omega)
   have hne := dd_ne (u / 10)
   cases hd : Lib.decDigits (u / 10) with
   | nil => exact absurd hd hne
   | cons a r => rw [hd] at this; simpa using this
theorem dig_dgB {b : UInt8} (h : dig b = true) (v : Nat) : dgB (10 * v + (b.toNat - 48)) = b := by
 simp only [dig, Bool.and_eq_true, decide_eq_true_eq] at h
 apply UInt8.toNat.inj
 rw [dgB_toNat]
 omega
theorem val_dd {l : List UInt8} (hd : l.all dig = true) (hn : l ≠ []) (h0 : l.length = 1 ∨ l.getD 0 0 ≠ 48) : Lib.decDigits (valU l) = l := by
 induction hk : l.length generalizing l with
 | zero => exact absurd (List.eq_nil_of_length_eq_zero hk) hn
 | succ k ih =>
  obtain ⟨l', b, rfl⟩ : ∃ l' b, l = l' ++ [b] := ⟨l.dropLast, l.getLast hn, (List.dropLast_concat_getLast hn).symm⟩
  rw [List.all_append] at hd
  simp only [Bool.and_eq_true, List.all_cons, List.all_nil, Bool.and_true] at hd
  rw [valU_snoc]
  by_cases hl : l' = []
  ·subst hl
   have hb := hd.2
   simp only [dig, Bool.and_eq_true, decide_eq_true_eq] at hb
   rw [show valU [] = 0 from rfl, dd_small (by omega), dig_dgB hd.2 0]
   rfl
  ·have hlen : l'.length = k := by simpa using hk
   have hpos : 0 < l'.length := List.length_pos_iff.2 hl
   have hf : l'.getD 0 0 ≠ 48 := by
    rcases h0 with h0 | h0
    ·simp at h0; exact absurd (by simpa using h0) hl
    ·cases l' with
     | nil => exact absurd rfl hl
     | cons a r => simpa using h0
   have e := ih hd.1 hl (.inr hf) hlen
   have hv : 0 < valU l' := by
    rcases Nat.eq_zero_or_pos (valU l') with h | h
    ·rw [h] at e
     rw [← e, dd_small (by omega)] at hf
     exact absurd (by decide) hf
    ·exact h
   rw [dd_big (by omega), dig_dgB hd.2]
   have hb := hd.2
   simp only [dig, Bool.and_eq_true, decide_eq_true_eq] at hb
   rw [show (10 * valU l' + (b.toNat - 48)) / 10 = valU l' by omega, e]
theorem valU_lt : ∀ {l : List UInt8}, l.all dig = true → valU l < 10 ^ l.length := by
 intro l hd
 induction hk : l.length generalizing l with
 | zero => rw [List.eq_nil_of_length_eq_zero hk]; simp [valU]
 | succ k ih =>
  have hn : l ≠ [] := by rintro rfl; simp at hk
  obtain ⟨l', b, rfl⟩ : ∃ l' b, l = l' ++ [b] := ⟨l.dropLast, l.getLast hn, (List.dropLast_concat_getLast hn).symm⟩
  rw [List.all_append] at hd
  simp only [Bool.and_eq_true, List.all_cons, List.all_nil, Bool.and_true] at hd
  have hb := hd.2
  simp only [dig, Bool.and_eq_true, decide_eq_true_eq] at hb
  have := ih hd.1 (by simpa using hk)
  rw [valU_snoc, Nat.pow_succ]
  omega
def rdU (l : List UInt8) : Option Nat := if l ≠ [] ∧ l.length ≤ 9 ∧ ¬ (l.getD 0 0 = 48 ∧ 1 < l.length) ∧ l.all dig = true then some (valU l) else none
def rdV (l : List UInt8) : Option Int :=
 if 1 < l.length ∧ l.getD 0 0 = 45 ∧ l.getD 1 0 ≠ 45 then (match rdU (l.drop 1) with
  | some n => if n = 0 then none else some (-(n : Int))
  | none => none)
 else Option.map (fun n : Nat => (n : Int)) (rdU l)
theorem rdU_dd {u : Nat} (h : u < 10 ^ 9) : rdU (Lib.decDigits u) = some u := by
 have h3 : ¬ ((Lib.decDigits u).getD 0 0 = 48 ∧ 1 < (Lib.decDigits u).length) := by
  rintro ⟨h1, h2⟩
  rcases Nat.eq_zero_or_pos u with h0 | h0
  ·subst h0; rw [dd_small (by omega)] at h2; simp at h2
  ·exact dd_first u h0 h1
 unfold rdU
 rw [if_pos ⟨dd_ne u, dd_pow 8 u h, h3, dd_dig u⟩, dd_val]
theorem rdU_some {l : List UInt8} {u : Nat} (h : rdU l = some u) : l = Lib.decDigits u ∧ u < 10 ^ 9 := by
 unfold rdU at h
 split at h
 ·rename_i hc
  obtain ⟨h1, h2, h3, h4⟩ := hc
  injection h with h
  subst h
  refine ⟨(val_dd h4 h1 ?_).symm, Nat.lt_of_lt_of_le (valU_lt h4) (Nat.pow_le_pow_right (by omega) h2)⟩
  by_cases e : l.getD 0 0 = 48
  ·left
   have : 0 < l.length := List.length_pos_iff.2 h1
   have : ¬ 1 < l.length := fun h => h3 ⟨e, h⟩
   omega
  ·exact .inr e
 ·cases h
theorem dd_no45 (u : Nat) : (Lib.decDigits u).getD 0 0 ≠ 45 := by
 have h := dd_dig u
 cases hd : Lib.decDigits u with
 | nil => exact absurd hd (dd_ne u)
 | cons a r =>
  rw [hd] at h
  simp only [List.all_cons, Bool.and_eq_true, dig, decide_eq_true_eq] at h
  simp only [List.getD_cons_zero]
  rintro rfl
  have : (45 : UInt8).toNat = 45 := rfl
  omega
theorem rdV_itoa {n : Int} (h0 : -999999999 ≤ n) (h1 : n ≤ 999999999) : rdV (Lib.itoa n) = some n := by
 by_cases hneg : n < 0
 ·obtain ⟨u, rfl⟩ : ∃ u : Nat, n = -(u : Int) := ⟨n.natAbs, by omega⟩
  rw [Lib.itoa_neg u (by omega)]
  have hl : 0 < (Lib.decDigits u).length := List.length_pos_iff.2 (dd_ne u)
  unfold rdV
  rw [if_pos ⟨by simp only [List.length_cons]; omega, rfl, by simpa using dd_no45 u⟩]
  simp only [List.drop_succ_cons, List.drop_zero]
  rw [rdU_dd (by omega)]
  simp only
  rw [if_neg (by omega)]
 ·obtain ⟨u, rfl⟩ : ∃ u : Nat, n = u := ⟨n.toNat, by omega⟩
  rw [Lib.itoa_nonneg]
  unfold rdV
  rw [if_neg (fun h => dd_no45 u h.2.1), rdU_dd (by omega)]
  rfl
theorem rdV_some {l : List UInt8} {n : Int} (h : rdV l = some n) : l = Lib.itoa n ∧ -999999999 ≤ n ∧ n ≤ 999999999 := by
 unfold rdV at h
 split at h
 ·rename_i hc
  split at h
  ·rename_i u hu
   split at h
   ·cases h
   ·injection h with h
    subst h
    obtain ⟨e, hlt⟩ := rdU_some hu
    rw [Lib.itoa_neg u (by omega), ← e]
    refine ⟨?_, by omega, by omega⟩
    obtain ⟨h1, h2, h3⟩ := hc
    cases l with
    | nil => simp at h1
    | cons a r => simp only [List.getD_cons_zero] at h2; rw [h2]; rfl
  ·cases h
 ·obtain ⟨u, hu, rfl⟩ := Option.map_eq_some_iff.1 h
  obtain ⟨e, hlt⟩ := rdU_some hu
  rw [Lib.itoa_nonneg]
  exact ⟨e, by omega, by omega⟩
end Go.Proofs.YtdcjlemkegifjaaDoor.Ab
