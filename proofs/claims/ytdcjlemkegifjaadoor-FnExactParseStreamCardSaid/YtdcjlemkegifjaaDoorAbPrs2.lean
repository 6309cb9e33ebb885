/- Numerals as strconv reads them; texts parsed both ways: the same. Plain. -/
import Derived.Test.YtdcjlemkegifjaaDoorAbPrs
namespace Go.Proofs.YtdcjlemkegifjaaDoor.Ab
open Go
set_option linter.unusedVariables false
set_option linter.unusedSimpArgs false
theorem wrap8 {x : Int} (h1 : 0 ≤ x) (h2 : x < 256) : IntKind.u8.wrap x = x := by
 unfold IntKind.wrap
 simp [IntKind.bits, IntKind.signed]
 omega
def accU (acc : Nat) (l : List UInt8) : Nat := l.foldl (fun n b => 10 * n + (b.toNat - 48)) acc
theorem accU_le : ∀ (l : List UInt8) (acc : Nat), acc ≤ accU acc l
 | [], _ => Nat.le_refl _
 | b :: l, acc => by
  have := accU_le l (10 * acc + (b.toNat - 48))
  show acc ≤ accU (10 * acc + (b.toNat - 48)) l
  omega
theorem parse_ok : ∀ (l : List UInt8) (acc : Nat), l.all dig = true → accU acc l ≤ 1000000000000000000 → Lib.parseUint10 acc l = .ok (accU acc l)
 | [], _, _, _ => rfl
 | b :: l, acc, hd, hl => by
  simp only [List.all_cons, Bool.and_eq_true, dig, decide_eq_true_eq] at hd
  have h1 : accU acc (b :: l) = accU (10 * acc + (b.toNat - 48)) l := rfl
  rw [h1] at hl ⊢
  have h2 := accU_le l (10 * acc + (b.toNat - 48))
  unfold Lib.parseUint10
  rw [if_pos hd.1, if_neg (by omega), if_neg (by omega), show acc * 10 + (b.toNat - 48) = 10 * acc + (b.toNat - 48) by omega]
  exact parse_ok l _ (by simpa [dig] using hd.2) hl
theorem mag_dd {u : Nat} (h : u ≤ 1000000000000000000) : Lib.parseMag (Lib.decDigits u) = .ok u := by
 unfold Lib.parseMag
 rw [if_neg (dd_ne u), parse_ok _ _ (dd_dig u) (by show valU _ ≤ _; rw [dd_val]; exact h)]
 show Lib.NumEnd.ok (valU _) = _
 rw [dd_val]
theorem atoi_itoa {n : Int} (h0 : -999999999 ≤ n) (h1 : n ≤ 999999999) : Lib.atoiAll (Lib.itoa n) = .ok n := by
 by_cases hneg : n < 0
 ·obtain ⟨u, rfl⟩ : ∃ u : Nat, n = -(u : Int) := ⟨n.natAbs, by omega⟩
  rw [Lib.itoa_neg u (by omega)]
  unfold Lib.atoiAll
  have e : (45 : UInt8).toNat = 45 := rfl
  simp only [e, or_true, if_true]
  rw [mag_dd (by omega)]
  simp only [not_true_eq_false, false_and, if_false, true_and]
  rw [if_neg (by omega)]
 ·obtain ⟨u, rfl⟩ : ∃ u : Nat, n = u := ⟨n.toNat, by omega⟩
  rw [Lib.itoa_nonneg]
  have hd := dd_dig u
  have hm := mag_dd (u := u) (by omega)
  unfold Lib.atoiAll
  cases hdd : Lib.decDigits u with
  | nil => exact absurd hdd (dd_ne u)
  | cons c r =>
   rw [hdd] at hd hm
   simp only [List.all_cons, Bool.and_eq_true, dig, decide_eq_true_eq] at hd
   have hc1 : ¬ c.toNat = 43 := by omega
   have hc2 : ¬ c.toNat = 45 := by omega
   simp only [hc1, hc2, or_self, not_false_eq_true, true_and, false_and, if_false]
   rw [hm]
   simp only
   rw [if_neg (by omega)]
def numN (l : List UInt8) : Int := match Lib.atoiAll l with
 | .ok v => v
 | .range => Lib.atoiSat l
 | _ => 0
def numB (l : List UInt8) : Bool := match Lib.atoiAll l with
 | .ok v => Lib.itoa v == l
 | _ => false
def numF (l : List UInt8) : Option Int := if numB l = true then some (numN l) else none
theorem numF_some {l : List UInt8} {n : Int} (h : numF l = some n) : l = Lib.itoa n := by
 unfold numF at h
 split at h
 ·rename_i hb
  injection h with h
  unfold numB at hb
  unfold numN at h
  split at hb
  ·rename_i v hv
   rw [hv] at h
   simp only at h
   subst h
   exact (beq_iff_eq.1 hb).symm
  ·cases hb
 ·cases h
theorem numF_itoa {n : Int} (h0 : -999999999 ≤ n) (h1 : n ≤ 999999999) : numF (Lib.itoa n) = some n := by
 have h := atoi_itoa h0 h1
 have hb : numB (Lib.itoa n) = true := by unfold numB; rw [h]; simp
 unfold numF
 rw [if_pos hb]
 unfold numN
 rw [h]
def prsC (f : List UInt8 → Option Int) (l : List UInt8) : Bool := (spl l).all (fun w => (f w).isSome) && strOk ((spl l).map fun w => (f w).getD 0)
def prs (f : List UInt8 → Option Int) (l : List UInt8) : List Int × Bool := if l = [46] then ([], true) else if prsC f l = true then ((spl l).map fun w => (f w).getD 0, true) else ([], false)
theorem prs_sub {f g : List UInt8 → Option Int} (h : ∀ w n, f w = some n → tok n = true → g w = some n) {l : List UInt8} (hc : prsC f l = true) : ((spl l).map fun w => (g w).getD 0) = ((spl l).map fun w => (f w).getD 0) ∧ prsC g l = true := by
 unfold prsC at hc
 simp only [Bool.and_eq_true, List.all_eq_true, strOk, decide_eq_true_eq, List.length_map] at hc
 obtain ⟨h1, h2, h3⟩ := hc
 have hw : ∀ w ∈ spl l, g w = f w := fun w hw => by
  obtain ⟨n, hn⟩ := Option.isSome_iff_exists.1 (h1 w hw)
  have ht := h2 n (List.mem_map.2 ⟨w, hw, by rw [hn]; rfl⟩)
  rw [hn, h w n hn ht]
 have e : ((spl l).map fun w => (g w).getD 0) = ((spl l).map fun w => (f w).getD 0) := List.map_congr_left fun w hm => by rw [hw w hm]
 refine ⟨e, ?_⟩
 unfold prsC
 rw [e]
 simp only [Bool.and_eq_true, List.all_eq_true, strOk, decide_eq_true_eq, List.length_map]
 exact ⟨fun w hm => by rw [hw w hm]; exact h1 w hm, h2, h3⟩
theorem prs_eq (l : List UInt8) : prs numF l = prs rdV l := by
 have a : ∀ w n, numF w = some n → tok n = true → rdV w = some n := fun w n hw ht => by
  have := tok_iffN.1 ht
  rw [numF_some hw]
  exact rdV_itoa (by omega) (by omega)
 have b : ∀ w n, rdV w = some n → tok n = true → numF w = some n := fun w n hw ht => by
  have := tok_iffN.1 ht
  rw [(rdV_some hw).1]
  exact numF_itoa (by omega) (by omega)
 unfold prs
 split
 ·rfl
 ·by_cases h : prsC rdV l = true
  ·obtain ⟨e1, e2⟩ := prs_sub b h
   rw [if_pos h, if_pos e2, e1]
  ·rw [if_neg h, if_neg (fun h2 => h (prs_sub a h2).2)]
theorem prs_bd (f : List UInt8 → Option Int) (l : List UInt8) : (prs f l).1.length ≤ 400 := by
 unfold prs
 split
 ·simp
 ·split
  ·rename_i h
   unfold prsC at h
   simp only [Bool.and_eq_true, strOk, decide_eq_true_eq, List.length_map] at h ⊢
   omega
  ·simp
theorem prs_dot {f : List UInt8 → Option Int} {l : List UInt8} (h : l = [46]) : prs f l = ([], true) := by unfold prs; rw [if_pos h]
theorem prs_none {f : List UInt8 → Option Int} {l : List UInt8} (h : ¬ l = [46]) {j : Nat} (hj : j < (spl l).length) (hb : (f ((spl l).getD j default)).isSome = false) : prs f l = ([], false) := by
 unfold prs
 rw [if_neg h, if_neg]
 intro hc
 unfold prsC at hc
 simp only [Bool.and_eq_true, List.all_eq_true] at hc
 have := hc.1 ((spl l).getD j default) (by rw [List.getD_eq_getElem?_getD, List.getElem?_eq_getElem hj]; exact List.getElem_mem hj)
 rw [hb] at this
 cases this
theorem prs_str {f : List UInt8 → Option Int} {l : List UInt8} (h : ¬ l = [46]) (hs : strOk ((spl l).map fun w => (f w).getD 0) = false) : prs f l = ([], false) := by
 unfold prs
 rw [if_neg h, if_neg]
 intro hc
 unfold prsC at hc
 rw [hs, Bool.and_false] at hc
 cases hc
theorem prs_yes {f : List UInt8 → Option Int} {l : List UInt8} (h : ¬ l = [46]) (ha : ∀ k < (spl l).length, (f ((spl l).getD k default)).isSome = true) (hs : strOk ((spl l).map fun w => (f w).getD 0) = true) : prs f l = ((spl l).map fun w => (f w).getD 0, true) := by
 unfold prs
 rw [if_neg h, if_pos]
 unfold prsC
 rw [hs, Bool.and_true, List.all_eq_true]
 intro w hw
 obtain ⟨k, hk, rfl⟩ := List.getElem_of_mem hw
 have := ha k hk
 rwa [List.getD_eq_getElem?_getD, List.getElem?_eq_getElem hk] at this
theorem spl_mem : ∀ {l w : List UInt8}, w ∈ spl l → w.length ≤ l.length
 | [], w, h => by simp [spl] at h; subst h; simp
 | b :: l, w, h => by
  unfold spl at h
  split at h
  ·rcases List.mem_cons.1 h with rfl | h
   ·simp
   ·have := spl_mem h; simp only [List.length_cons]; omega
  ·split at h
   ·rename_i v vs e
    rcases List.mem_cons.1 h with rfl | h
    ·have := spl_mem (l := l) (w := v) (by rw [e]; simp)
     simp only [List.length_cons]; omega
    ·have := spl_mem (l := l) (w := w) (by rw [e]; simp [h])
     simp only [List.length_cons]; omega
   ·simp only [List.mem_singleton] at h; subst h; simp
theorem spl_get {l : List UInt8} {j : Nat} (hj : j < (spl l).length) : ((spl l).getD j default).length ≤ l.length := spl_mem (by rw [List.getD_eq_getElem?_getD, List.getElem?_eq_getElem hj]; exact List.getElem_mem hj)
theorem all_snoc {p : Nat → Prop} {j : Nat} (h : ∀ k < j, p k) (hj : p j) : ∀ k < j + 1, p k := fun k hk => by
 rcases Nat.lt_or_ge k j with h1 | h1
 ·exact h k h1
 ·have : k = j := by omega
  rw [this]; exact hj
theorem cut_cases (l : List UInt8) (i : Nat) : (i < l.length ∧ l.getD i 0 = 44) ∨ (i < l.length ∧ l.getD i 0 ≠ 44) ∨ ¬ i < l.length := by
 by_cases h1 : i < l.length
 ·by_cases h2 : l.getD i 0 = 44
  ·exact .inl ⟨h1, h2⟩
  ·exact .inr (.inl ⟨h1, h2⟩)
 ·exact .inr (.inr h1)
theorem cut_yes {l : List UInt8} {fr i : Nat} {outs : List (List UInt8)} (hi : i < l.length) (hf : fr ≤ i) (h : outs ++ spl (l.drop fr) = spl l) (hn : ∀ y ∈ (l.take i).drop fr, y ≠ 44) (hb : l.getD i 0 = 44) :
  (outs ++ [(l.take i).drop fr]) ++ spl (l.drop (i + 1)) = spl l := by
 have e : l.drop fr = (l.take i).drop fr ++ 44 :: l.drop (i + 1) := by
  have h1 : l = l.take i ++ l.drop i := (List.take_append_drop i l).symm
  have h2 : l.drop i = 44 :: l.drop (i + 1) := by
   rw [List.drop_eq_getElem_cons hi]
   congr 1
   rw [List.getD_eq_getElem?_getD, List.getElem?_eq_getElem hi] at hb
   exact hb
  conv => lhs; rw [h1]
  rw [List.drop_append_of_le_length (by simp; omega), h2]
 rw [← h, e, spl_at hn]
 simp
theorem cut_no {l : List UInt8} {fr i : Nat} (hi : i < l.length) (hf : fr ≤ i) (hn : ∀ y ∈ (l.take i).drop fr, y ≠ 44) (hb : l.getD i 0 ≠ 44) : ∀ y ∈ (l.take (i + 1)).drop fr, y ≠ 44 := by
 have e : l.take (i + 1) = l.take i ++ [l.getD i 0] := by
  rw [List.take_add_one, List.getElem?_eq_getElem hi, List.getD_eq_getElem?_getD, List.getElem?_eq_getElem hi]; rfl
 rw [e, List.drop_append_of_le_length (by simp; omega)]
 intro y hy
 rcases List.mem_append.1 hy with hy | hy
 ·exact hn y hy
 ·rw [List.mem_singleton.1 hy]; exact hb
theorem cut_end {l : List UInt8} {fr : Nat} {outs : List (List UInt8)} (h : outs ++ spl (l.drop fr) = spl l) (hn : ∀ y ∈ (l.take l.length).drop fr, y ≠ 44) : outs ++ [l.drop fr] = spl l := by
 rw [List.take_length] at hn
 rw [← h, spl_no hn]
def sgn (l : List UInt8) : Bool := decide (1 < l.length ∧ l.getD 0 0 = 45 ∧ l.getD 1 0 ≠ 45)
theorem rdV_uns {l : List UInt8} (h : sgn l = false) : rdV l = Option.map (fun n : Nat => (n : Int)) (rdU l) := by
 unfold rdV
 rw [if_neg (by simpa [sgn] using h)]
theorem rdV_sgn {l : List UInt8} (h : sgn l = true) : rdV l = (match rdU (l.drop 1) with
  | some n => if n = 0 then none else some (-(n : Int))
  | none => none) := by
 unfold rdV
 rw [if_pos (by simpa [sgn] using h)]
 cases rdU (l.drop 1) <;> rfl
theorem sgn_drop {l : List UInt8} (h : sgn l = true) : sgn (l.drop 1) = false := by
 simp only [sgn, decide_eq_true_eq] at h
 simp only [sgn, decide_eq_false_iff_not]
 rintro ⟨_, h2, _⟩
 apply h.2.2
 rw [← h2]
 cases l with
 | nil => rfl
 | cons a r => cases r <;> rfl
theorem u8_iff {b : UInt8} {k : Nat} (hk : k < 256) : ((b.toNat : Int) == (k : Int)) = true ↔ b = UInt8.ofNat k := by
 rw [beq_iff_eq]
 constructor
 ·intro h
  apply UInt8.toNat.inj
  rw [UInt8.toNat_ofNat']
  omega
 ·rintro rfl
  rw [UInt8.toNat_ofNat']
  omega
theorem G.joinS {c : Cx} {k : List It} {st st' : St} {x : It} (h1 : G c k st' → G c (x :: k) st) (h2 : G c k st') : G c (x :: k) st := h1 h2
theorem b45 {b : UInt8} : ((b.toNat : Int) == 45) = true ↔ b = 45 := u8_iff (k := 45) (by omega)
theorem b48 {b : UInt8} : ((b.toNat : Int) == 48) = true ↔ b = 48 := u8_iff (k := 48) (by omega)
theorem sgn_facts {l : List UInt8} (h : sgn l = true) : (l.length : Int) > 1 ∧ (((l.getD 0 0).toNat : Int) == 45) = true ∧ (((l.getD 1 0).toNat : Int) == 45) = false := by
 simp only [sgn, decide_eq_true_eq] at h
 refine ⟨by omega, b45.2 h.2.1, ?_⟩
 rw [Bool.eq_false_iff]
 exact fun e => h.2.2 (b45.1 e)
theorem uns_cases {l : List UInt8} (h : sgn l = false) : ¬ (l.length : Int) > 1 ∨ ((l.length : Int) > 1 ∧ (((l.getD 0 0).toNat : Int) == 45) = false) ∨ ((l.length : Int) > 1 ∧ (((l.getD 0 0).toNat : Int) == 45) = true ∧ (((l.getD 1 0).toNat : Int) == 45) = true) := by
 simp only [sgn, decide_eq_false_iff_not] at h
 by_cases h1 : (l.length : Int) > 1
 ·right
  cases h2 : (((l.getD 0 0).toNat : Int) == 45) with
  | false => exact .inl ⟨h1, rfl⟩
  | true =>
   refine .inr ⟨h1, rfl, ?_⟩
   apply Classical.byContradiction
   intro h3
   exact h ⟨by omega, b45.1 h2, fun e => h3 (b45.2 e)⟩
 ·exact .inl h1
theorem u_cases (l : List UInt8) : ((l.length : Int) < 1 ∨ (¬ (l.length : Int) < 1 ∧ (l.length : Int) > 9) ∨ (¬ (l.length : Int) < 1 ∧ ¬ (l.length : Int) > 9 ∧ (((l.getD 0 0).toNat : Int) == 48) = true ∧ (l.length : Int) > 1)) ∨
  (¬ (l.length : Int) < 1 ∧ ¬ (l.length : Int) > 9 ∧ ((((l.getD 0 0).toNat : Int) == 48) = false ∨ ((((l.getD 0 0).toNat : Int) == 48) = true ∧ ¬ (l.length : Int) > 1))) := by
 by_cases h1 : (l.length : Int) < 1
 ·exact .inl (.inl h1)
 ·by_cases h2 : (l.length : Int) > 9
  ·exact .inl (.inr (.inl ⟨h1, h2⟩))
  ·cases h3 : (((l.getD 0 0).toNat : Int) == 48) with
   | false => exact .inr ⟨h1, h2, .inl rfl⟩
   | true =>
    by_cases h4 : (l.length : Int) > 1
    ·exact .inl (.inr (.inr ⟨h1, h2, rfl, h4⟩))
    ·exact .inr ⟨h1, h2, .inr ⟨rfl, h4⟩⟩
theorem rdU_bad {l : List UInt8} (h : (l.length : Int) < 1 ∨ (¬ (l.length : Int) < 1 ∧ (l.length : Int) > 9) ∨ (¬ (l.length : Int) < 1 ∧ ¬ (l.length : Int) > 9 ∧ (((l.getD 0 0).toNat : Int) == 48) = true ∧ (l.length : Int) > 1)) : rdU l = none := by
 unfold rdU
 rw [if_neg]
 rintro ⟨h1, h2, h3, _⟩
 have := List.length_pos_iff.2 h1
 rcases h with h | h | h
 ·omega
 ·omega
 ·exact h3 ⟨b48.1 h.2.2.1, by omega⟩
theorem rdU_nodig {l : List UInt8} {i : Nat} (hi : i < l.length) (h : dig (l.getD i 0) = false) : rdU l = none := by
 unfold rdU
 rw [if_neg]
 rintro ⟨_, _, _, h4⟩
 rw [List.all_eq_true] at h4
 have := h4 (l.getD i 0) (by rw [List.getD_eq_getElem?_getD, List.getElem?_eq_getElem hi]; exact List.getElem_mem hi)
 rw [h] at this
 cases this
theorem rdU_good {l : List UInt8} (h1 : ¬ (l.length : Int) < 1) (h2 : ¬ (l.length : Int) > 9) (h3 : (((l.getD 0 0).toNat : Int) == 48) = false ∨ ((((l.getD 0 0).toNat : Int) == 48) = true ∧ ¬ (l.length : Int) > 1)) (hd : l.all dig = true) : rdU l = some (valU l) := by
 have h4 : ¬ (l.getD 0 0 = 48 ∧ 1 < l.length) := by
  rintro ⟨e, hl⟩
  rcases h3 with h3 | h3
  ·rw [b48.2 e] at h3; cases h3
  ·omega
 unfold rdU
 rw [if_pos ⟨fun e => by rw [e] at h1; exact h1 (by simp), by omega, h4, hd⟩]
theorem dig_no {b : UInt8} (h : (b.toNat : Int) < 48 ∨ (b.toNat : Int) > 57) : dig b = false := by
 rw [Bool.eq_false_iff]
 intro h2
 simp only [dig, Bool.and_eq_true, decide_eq_true_eq] at h2
 omega
theorem read_step {l : List UInt8} {i : Nat} (hi : i < l.length) (hl : l.length ≤ 9) (hd : (l.take i).all dig = true) (h1 : ¬ ((l.getD i 0).toNat : Int) < 48) (h2 : ¬ ((l.getD i 0).toNat : Int) > 57) :
  IntKind.u8.wrap (((l.getD i 0).toNat : Int) - 48) = (((l.getD i 0).toNat - 48 : Nat) : Int) ∧ IntKind.i64.wrap (((l.getD i 0).toNat - 48 : Nat) : Int) = (((l.getD i 0).toNat - 48 : Nat) : Int) ∧ IntKind.i64.wrap (10 * (valU (l.take i) : Int)) = ((10 * valU (l.take i) : Nat) : Int) ∧
  IntKind.i64.wrap (((10 * valU (l.take i) : Nat) : Int) + (((l.getD i 0).toNat - 48 : Nat) : Int)) = ((valU (l.take (i + 1)) : Nat) : Int) ∧ (l.take (i + 1)).all dig = true := by
 have e : l.take (i + 1) = l.take i ++ [l.getD i 0] := by
  rw [List.take_add_one, List.getElem?_eq_getElem hi, List.getD_eq_getElem?_getD, List.getElem?_eq_getElem hi]; rfl
 have hv := valU_lt hd
 have hp : 10 ^ (l.take i).length ≤ 10 ^ 9 := Nat.pow_le_pow_right (by omega) (by rw [List.length_take]; omega)
 refine ⟨?_, ?_, ?_, ?_, ?_⟩
 ·rw [wrap8 (by omega) (by omega)]; omega
 ·rw [wrap64 (by omega) (by omega)]
 ·rw [wrap64 (by omega) (by omega)]; omega
 ·rw [wrap64 (by omega) (by omega), e, valU_snoc]; omega
 ·rw [e, List.all_append, hd]
  simp only [List.all_cons, List.all_nil, Bool.and_true, Bool.true_and, dig, Bool.and_eq_true, decide_eq_true_eq]
  omega
theorem word_cases (a b : Nat) {c : Bool} : (a < b ∧ c = true) ∨ (a < b ∧ c = false) ∨ ¬ a < b := by
 by_cases h : a < b
 ·cases c
  ·exact .inr (.inl ⟨h, rfl⟩)
  ·exact .inl ⟨h, rfl⟩
 ·exact .inr (.inr h)
theorem num_yes {w : List UInt8} (h : (numF w).isSome = true) : numB w = true ∧ (numF w).getD 0 = numN w := by
 unfold numF at h ⊢
 split at h
 ·rename_i hb
  exact ⟨hb, by rw [if_pos hb]; rfl⟩
 ·cases h
theorem num_no {w : List UInt8} (h : (numF w).isSome = false) : numB w = false := by
 unfold numF at h
 split at h
 ·cases h
 ·rename_i hb; simpa using hb
end Go.Proofs.YtdcjlemkegifjaaDoor.Ab
