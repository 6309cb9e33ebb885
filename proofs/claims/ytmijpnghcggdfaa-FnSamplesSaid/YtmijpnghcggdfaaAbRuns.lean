/- Runs of small programs, step by step: plain laws. -/
import Derived.Test.YtmijpnghcggdfaaAbPrc
import Derived.Test.YtmijpnghcggdfaaAbSums
namespace Go.Proofs.Ytmijpnghcggdfaa.Ab
open Go
set_option linter.unusedVariables false
set_option linter.unusedSimpArgs false
section
variable {l : List I4} {ins : List (List Int)} {n : Nat} {pc : Int} {a b c : Int} {rs : List Int} {outs : List (List Int)} {used : List Int}
theorem want_read (hx : l.getD pc.toNat default = (1, a, b, c)) (hp : pc ≠ (l.length : Int)) : wantK l pc = (2, b) := by
  unfold wantK
  rw [if_neg hp, hx]
  rfl
theorem want_write (hx : l.getD pc.toNat default = (2, a, b, c)) (hp : pc ≠ (l.length : Int)) : wantK l pc = (3, b) := by
  unfold wantK
  rw [if_neg hp, hx]
  rfl
theorem want_other {op : Int} (hx : l.getD pc.toNat default = (op, a, b, c)) (hp : pc ≠ (l.length : Int)) (h1 : op ≠ 1) (h2 : op ≠ 2) (h3 : op ≠ 11) : wantK l pc = (1, 0) := by
  unfold wantK
  rw [if_neg hp, hx]
  simp only
  rw [if_neg h3, if_neg h1, if_neg h2]
theorem set_own {rs : List Int} {k : Nat} (h : k < rs.length) : rs.set k (rs.getD k default) = rs := by
  rw [List.getD_eq_getElem?_getD, List.getElem?_eq_getElem h]
  exact List.set_getElem_self h
theorem go_read (hx : l.getD pc.toNat default = (1, a, b, c)) (hp : pc ≠ (l.length : Int)) (hu : used.getD b.toNat default ≠ ((ins.getD b.toNat default).length : Int)) :
    goP l ins (n + 1) ⟨pc, rs, outs, used⟩ = goP l ins n ⟨pc + 1, rs.set a.toNat ((ins.getD b.toNat default).getD (used.getD b.toNat default).toNat default), outs, used.set b.toNat (used.getD b.toNat default + 1)⟩ := by
  have hw := want_read hx hp
  rw [goP_succ (by rw [stopP_two (p := b) (by rw [hw]) (by rw [hw])]; exact beq_eq_false_iff_ne.2 hu)]
  congr 1
  simp only [nextP, xP, wP, tokP, hw, hx, stepPc, stepRs, valR, if_true, if_false, Int.reduceEq, false_and, or_self]
theorem go_end (hx : l.getD pc.toNat default = (1, a, b, c)) (hp : pc ≠ (l.length : Int)) (hu : used.getD b.toNat default = ((ins.getD b.toNat default).length : Int)) :
    goP l ins n ⟨pc, rs, outs, used⟩ = (⟨pc, rs, outs, used⟩, 2, b) := by
  have hw := want_read hx hp
  rw [goP_stop (by rw [stopP_two (p := b) (by rw [hw]) (by rw [hw])]; exact beq_iff_eq.2 hu)]
  simp only [wP, hw]
theorem go_write (hx : l.getD pc.toNat default = (2, a, b, c)) (hp : pc ≠ (l.length : Int)) (hu : (outs.getD b.toNat default).length < 400) (ha : a.toNat < rs.length) :
    goP l ins (n + 1) ⟨pc, rs, outs, used⟩ = goP l ins n ⟨pc + 1, rs, outs.set b.toNat (outs.getD b.toNat default ++ [rs.getD a.toNat default]), used⟩ := by
  have hw := want_write hx hp
  rw [goP_succ (by rw [stopP_three (p := b) (by rw [hw]) (by rw [hw])]; exact beq_eq_false_iff_ne.2 (by simp only; omega))]
  congr 1
  simp only [nextP, xP, wP, tokP, hw, hx, stepPc, stepRs, stepW, valR, rg, if_true, if_false, Int.reduceEq, false_and, or_self, set_own ha]
theorem go_other {op : Int} (hx : l.getD pc.toNat default = (op, a, b, c)) (hp : pc ≠ (l.length : Int)) (h1 : op ≠ 1) (h2 : op ≠ 2) (h3 : op ≠ 11) :
    goP l ins (n + 1) ⟨pc, rs, outs, used⟩ = goP l ins n ⟨stepPc (op, a, b, c) pc rs, stepRs (op, a, b, c) rs 0, outs, used⟩ := by
  have hw := want_other hx hp h1 h2 h3
  have hs : stopP l ins ⟨pc, rs, outs, used⟩ = false := by
    unfold stopP wP
    rw [hw]
    rfl
  rw [goP_succ hs]
  congr 1
  simp only [nextP, xP, wP, tokP, hw, hx, if_false, Int.reduceEq]
theorem go_jump (hx : l.getD pc.toNat default = (8, a, b, c)) (hp : pc ≠ (l.length : Int)) (ha : a.toNat < rs.length) :
    goP l ins (n + 1) ⟨pc, rs, outs, used⟩ = goP l ins n ⟨b, rs, outs, used⟩ := by
  rw [go_other hx hp (by omega) (by omega) (by omega)]
  congr 1
  simp only [stepPc, stepRs, valR, rg, if_true, if_false, Int.reduceEq, true_or, set_own ha]
theorem go_add (hx : l.getD pc.toNat default = (4, a, b, c)) (hp : pc ≠ (l.length : Int)) :
    goP l ins (n + 1) ⟨pc, rs, outs, used⟩ = goP l ins n ⟨pc + 1, rs.set a.toNat (wrapT (rs.getD b.toNat default + rs.getD c.toNat default)), outs, used⟩ := by
  rw [go_other hx hp (by omega) (by omega) (by omega)]
  simp only [stepPc, stepRs, valR, rg, if_true, if_false, Int.reduceEq, false_and, or_self]
theorem go_zeroY (hx : l.getD pc.toNat default = (9, a, b, c)) (hp : pc ≠ (l.length : Int)) (ha : a.toNat < rs.length) (h0 : rs.getD a.toNat default = 0) :
    goP l ins (n + 1) ⟨pc, rs, outs, used⟩ = goP l ins n ⟨b, rs, outs, used⟩ := by
  rw [go_other hx hp (by omega) (by omega) (by omega)]
  congr 1
  simp only [stepPc, stepRs, valR, rg, h0, if_true, if_false, Int.reduceEq, true_or, or_true, true_and, and_self, false_or, false_and, or_false]
  rw [← h0, set_own ha]
theorem go_zeroN (hx : l.getD pc.toNat default = (9, a, b, c)) (hp : pc ≠ (l.length : Int)) (ha : a.toNat < rs.length) (h0 : rs.getD a.toNat default ≠ 0) :
    goP l ins (n + 1) ⟨pc, rs, outs, used⟩ = goP l ins n ⟨pc + 1, rs, outs, used⟩ := by
  rw [go_other hx hp (by omega) (by omega) (by omega)]
  congr 1
  simp only [stepPc, stepRs, valR, rg, h0, if_true, if_false, Int.reduceEq, false_and, and_false, or_self, set_own ha]
end
def copyL : List I4 := [(1, 0, 0, 0), (2, 0, 0, 0), (2, 0, 1, 0), (8, 0, 0, 0)]
theorem copy_round {a : List Int} {n k : Nat} {r : Int} {o1 o2 : List Int} (hk : k < a.length) (h1 : o1.length < 400) (h2 : o2.length < 400) :
    goP copyL [a] (n + 4) ⟨0, [r, 0, 0, 0], [o1, o2], [(k : Int)]⟩ = goP copyL [a] n ⟨0, [a.getD k default, 0, 0, 0], [o1 ++ [a.getD k default], o2 ++ [a.getD k default]], [((k + 1 : Nat) : Int)]⟩ := by
  rw [show n + 4 = n + 3 + 1 from rfl, go_read (a := 0) (b := 0) (c := 0) rfl (by decide) (by show (k : Int) ≠ (a.length : Int); omega)]
  show goP copyL [a] (n + 2 + 1) ⟨1, [a.getD k default, 0, 0, 0], [o1, o2], [(k : Int) + 1]⟩ = _
  rw [go_write (a := 0) (b := 0) (c := 0) rfl (by decide) (by show o1.length < 400; exact h1) (by show 0 < 4; omega)]
  show goP copyL [a] (n + 1 + 1) ⟨2, [a.getD k default, 0, 0, 0], [o1 ++ [a.getD k default], o2], [(k : Int) + 1]⟩ = _
  rw [go_write (a := 0) (b := 1) (c := 0) rfl (by decide) (by show o2.length < 400; exact h2) (by show 0 < 4; omega)]
  show goP copyL [a] (n + 1) ⟨3, [a.getD k default, 0, 0, 0], [o1 ++ [a.getD k default], o2 ++ [a.getD k default]], [(k : Int) + 1]⟩ = _
  rw [go_jump (a := 0) (b := 0) (c := 0) rfl (by decide) (by show 0 < 4; omega)]
  rfl
theorem copy_run {a : List Int} (ha : a.length < 400) : ∀ m k f r, k + m = a.length → 4 * m ≤ f → ∃ rs', goP copyL [a] f ⟨0, [r, 0, 0, 0], [a.take k, a.take k], [(k : Int)]⟩ = (⟨0, rs', [a, a], [(a.length : Int)]⟩, 2, 0)
  | 0, k, f, r, hk, hf => by
    obtain rfl : k = a.length := by omega
    rw [List.take_length]
    exact ⟨_, go_end (a := 0) (b := 0) (c := 0) rfl (by decide) rfl⟩
  | m + 1, k, f, r, hk, hf => by
    obtain ⟨f, rfl⟩ : ∃ g, f = g + 4 := ⟨f - 4, by omega⟩
    have hl : (a.take k).length < 400 := by rw [List.length_take]; omega
    rw [copy_round (by omega) hl hl, ← take_snoc a (by omega)]
    exact copy_run ha m (k + 1) f _ (by omega) (by omega)
def splitL : List I4 := [(1, 0, 0, 0), (2, 0, 0, 0), (1, 0, 0, 0), (2, 0, 1, 0), (8, 0, 0, 0)]
theorem split_even {a : List Int} {n k : Nat} {r : Int} {o1 o2 : List Int} (hk : k < a.length) (h1 : o1.length < 400) :
    goP splitL [a] (n + 2) ⟨0, [r, 0, 0, 0], [o1, o2], [(k : Int)]⟩ = goP splitL [a] n ⟨2, [a.getD k default, 0, 0, 0], [o1 ++ [a.getD k default], o2], [((k + 1 : Nat) : Int)]⟩ := by
  rw [show n + 2 = n + 1 + 1 from rfl, go_read (a := 0) (b := 0) (c := 0) rfl (by decide) (by show (k : Int) ≠ (a.length : Int); omega)]
  show goP splitL [a] (n + 1) ⟨1, [a.getD k default, 0, 0, 0], [o1, o2], [(k : Int) + 1]⟩ = _
  rw [go_write (a := 0) (b := 0) (c := 0) rfl (by decide) (by show o1.length < 400; exact h1) (by show 0 < 4; omega)]
  rfl
theorem split_odd {a : List Int} {n k : Nat} {r : Int} {o1 o2 : List Int} (hk : k < a.length) (h1 : o2.length < 400) :
    goP splitL [a] (n + 3) ⟨2, [r, 0, 0, 0], [o1, o2], [(k : Int)]⟩ = goP splitL [a] n ⟨0, [a.getD k default, 0, 0, 0], [o1, o2 ++ [a.getD k default]], [((k + 1 : Nat) : Int)]⟩ := by
  rw [show n + 3 = n + 2 + 1 from rfl, go_read (a := 0) (b := 0) (c := 0) rfl (by decide) (by show (k : Int) ≠ (a.length : Int); omega)]
  show goP splitL [a] (n + 1 + 1) ⟨3, [a.getD k default, 0, 0, 0], [o1, o2], [(k : Int) + 1]⟩ = _
  rw [go_write (a := 0) (b := 1) (c := 0) rfl (by decide) (by show o2.length < 400; exact h1) (by show 0 < 4; omega)]
  show goP splitL [a] (n + 1) ⟨4, [a.getD k default, 0, 0, 0], [o1, o2 ++ [a.getD k default]], [(k : Int) + 1]⟩ = _
  rw [go_jump (a := 0) (b := 0) (c := 0) rfl (by decide) (by show 0 < 4; omega)]
  rfl
theorem evenP_y {n : Nat} (h : n % 2 = 0) : evenP n = true := by
  unfold evenP
  rw [Int.tmod_eq_emod_of_nonneg (by omega), beq_iff_eq]; omega
theorem evenP_n {n : Nat} (h : n % 2 = 1) : evenP n = false := by
  unfold evenP
  rw [Int.tmod_eq_emod_of_nonneg (by omega), beq_eq_false_iff_ne]; omega
theorem split_run {a : List Int} (ha : a.length < 400) : ∀ m k f r, k + m = a.length → 3 * m ≤ f → ∃ pc' rs', goP splitL [a] f ⟨if k % 2 = 0 then 0 else 2, [r, 0, 0, 0], [(part evenP a k).1, (part evenP a k).2], [(k : Int)]⟩ = (⟨pc', rs', [(part evenP a a.length).1, (part evenP a a.length).2], [(a.length : Int)]⟩, 2, 0)
  | 0, k, f, r, hk, hf => by
    obtain rfl : k = a.length := by omega
    rcases Nat.mod_two_eq_zero_or_one a.length with h | h
    · rw [if_pos h]; exact ⟨_, _, go_end (a := 0) (b := 0) (c := 0) rfl (by decide) rfl⟩
    · rw [if_neg (by omega)]; exact ⟨_, _, go_end (a := 0) (b := 0) (c := 0) rfl (by decide) rfl⟩
  | m + 1, k, f, r, hk, hf => by
    have hl := part_len evenP a k
    rcases Nat.mod_two_eq_zero_or_one k with h | h
    · obtain ⟨f, rfl⟩ : ∃ g, f = g + 2 := ⟨f - 2, by omega⟩
      have ih := split_run ha m (k + 1) f (a.getD k default) (by omega) (by omega)
      rw [if_pos h, split_even (by omega) (by omega)]
      rw [if_neg (by omega), part_y (evenP_y h)] at ih
      exact ih
    · obtain ⟨f, rfl⟩ : ∃ g, f = g + 3 := ⟨f - 3, by omega⟩
      have ih := split_run ha m (k + 1) f (a.getD k default) (by omega) (by omega)
      rw [if_neg (by omega), split_odd (by omega) (by omega)]
      rw [if_pos (by omega), part_n (evenP_n h)] at ih
      exact ih
def altPL : List I4 := [(1, 0, 0, 0), (2, 0, 0, 0), (1, 0, 1, 0), (2, 0, 0, 0), (8, 0, 0, 0)]
theorem alt_evenR {a b : List Int} {n k q : Nat} {r : Int} {o1 : List Int} (hk : k < a.length) (h1 : o1.length < 400) :
    goP altPL [a, b] (n + 2) ⟨0, [r, 0, 0, 0], [o1], [(k : Int), (q : Int)]⟩ = goP altPL [a, b] n ⟨2, [a.getD k default, 0, 0, 0], [o1 ++ [a.getD k default]], [((k + 1 : Nat) : Int), (q : Int)]⟩ := by
  rw [show n + 2 = n + 1 + 1 from rfl, go_read (a := 0) (b := 0) (c := 0) rfl (by decide) (by show (k : Int) ≠ (a.length : Int); omega)]
  show goP altPL [a, b] (n + 1) ⟨1, [a.getD k default, 0, 0, 0], [o1], [(k : Int) + 1, (q : Int)]⟩ = _
  rw [go_write (a := 0) (b := 0) (c := 0) rfl (by decide) (by show o1.length < 400; exact h1) (by show 0 < 4; omega)]
  rfl
theorem alt_oddR {a b : List Int} {n k q : Nat} {r : Int} {o1 : List Int} (hk : q < b.length) (h1 : o1.length < 400) :
    goP altPL [a, b] (n + 3) ⟨2, [r, 0, 0, 0], [o1], [(k : Int), (q : Int)]⟩ = goP altPL [a, b] n ⟨0, [b.getD q default, 0, 0, 0], [o1 ++ [b.getD q default]], [(k : Int), ((q + 1 : Nat) : Int)]⟩ := by
  rw [show n + 3 = n + 2 + 1 from rfl, go_read (a := 0) (b := 1) (c := 0) rfl (by decide) (by show (q : Int) ≠ (b.length : Int); omega)]
  show goP altPL [a, b] (n + 1 + 1) ⟨3, [b.getD q default, 0, 0, 0], [o1], [(k : Int), (q : Int) + 1]⟩ = _
  rw [go_write (a := 0) (b := 0) (c := 0) rfl (by decide) (by show o1.length < 400; exact h1) (by show 0 < 4; omega)]
  show goP altPL [a, b] (n + 1) ⟨4, [b.getD q default, 0, 0, 0], [o1 ++ [b.getD q default]], [(k : Int), (q : Int) + 1]⟩ = _
  rw [go_jump (a := 0) (b := 0) (c := 0) rfl (by decide) (by show 0 < 4; omega)]
  rfl
theorem alt_run {a b : List Int} (ha : a.length < 100) (hb : b.length < 100) : ∀ m k f r, k + m = altN a b → 3 * m ≤ f → ∃ pc' rs' us p, goP altPL [a, b] f ⟨if k % 2 = 0 then 0 else 2, [r, 0, 0, 0], [altL a b k], [(((k + 1) / 2 : Nat) : Int), ((k / 2 : Nat) : Int)]⟩ = (⟨pc', rs', [altL a b (altN a b)], us⟩, 2, p)
  | 0, k, f, r, hk, hf => by
    obtain rfl : k = altN a b := by omega
    have hN : altN a b = min (2 * a.length) (2 * b.length + 1) := by unfold altN; omega
    rcases Nat.mod_two_eq_zero_or_one (altN a b) with h | h
    · rw [if_pos h]
      exact ⟨_, _, _, _, go_end (a := 0) (b := 0) (c := 0) rfl (by decide) (by show (((altN a b + 1) / 2 : Nat) : Int) = (a.length : Int); omega)⟩
    · rw [if_neg (by omega)]
      exact ⟨_, _, _, _, go_end (a := 0) (b := 1) (c := 0) rfl (by decide) (by show ((altN a b / 2 : Nat) : Int) = (b.length : Int); omega)⟩
  | m + 1, k, f, r, hk, hf => by
    have hl := altL_len a b k
    have hN : altN a b = min (2 * a.length) (2 * b.length + 1) := by unfold altN; omega
    rcases Nat.mod_two_eq_zero_or_one k with h | h
    · obtain ⟨f, rfl⟩ : ∃ g, f = g + 2 := ⟨f - 2, by omega⟩
      have ih := alt_run ha hb m (k + 1) f (a.getD (k / 2) default) (by omega) (by omega)
      rw [if_neg (by omega), altL, if_neg (by omega), show (k + 1 + 1) / 2 = k / 2 + 1 by omega, show (k + 1) / 2 = k / 2 by omega] at ih
      rw [if_pos h, show (k + 1) / 2 = k / 2 by omega, alt_evenR (by omega) (by omega)]
      exact ih
    · obtain ⟨f, rfl⟩ : ∃ g, f = g + 3 := ⟨f - 3, by omega⟩
      have ih := alt_run ha hb m (k + 1) f (b.getD (k / 2) default) (by omega) (by omega)
      rw [if_pos (by omega), altL, if_pos h, show (k + 1 + 1) / 2 = (k + 1) / 2 by omega, show (k + 1) / 2 = k / 2 + 1 by omega] at ih
      rw [if_neg (by omega), show (k + 1) / 2 = k / 2 + 1 by omega, alt_oddR (by omega) (by omega)]
      exact ih
def addPL : List I4 := [(1, 0, 0, 0), (1, 1, 1, 0), (4, 0, 0, 1), (2, 0, 0, 0), (8, 0, 0, 0)]
def addL (a b : List Int) : Nat → List Int
  | 0 => []
  | k + 1 => addL a b k ++ [wrapT (a.getD k default + b.getD k default)]
theorem addL_len (a b : List Int) : ∀ k, (addL a b k).length = k
  | 0 => rfl
  | k + 1 => by simp [addL, addL_len a b k]
theorem addL_get (a b : List Int) : ∀ n j, j < n → (addL a b n).getD j default = wrapT (a.getD j default + b.getD j default)
  | 0, j, h => by omega
  | n + 1, j, h => by
    have hl := addL_len a b n
    by_cases e : j = n
    · subst e; rw [addL, getD_snoc _ _ hl]
    · rw [addL, getD_old _ _ (by omega)]; exact addL_get a b n j (by omega)
theorem add_round {a b : List Int} {n k : Nat} {r r2 : Int} {o1 : List Int} (hk : k < a.length) (hq : k < b.length) (h1 : o1.length < 400) :
    goP addPL [a, b] (n + 5) ⟨0, [r, r2, 0, 0], [o1], [(k : Int), (k : Int)]⟩ = goP addPL [a, b] n ⟨0, [wrapT (a.getD k default + b.getD k default), b.getD k default, 0, 0], [o1 ++ [wrapT (a.getD k default + b.getD k default)]], [((k + 1 : Nat) : Int), ((k + 1 : Nat) : Int)]⟩ := by
  rw [show n + 5 = n + 4 + 1 from rfl, go_read (a := 0) (b := 0) (c := 0) rfl (by decide) (by show (k : Int) ≠ (a.length : Int); omega)]
  show goP addPL [a, b] (n + 3 + 1) ⟨1, [a.getD k default, r2, 0, 0], [o1], [(k : Int) + 1, (k : Int)]⟩ = _
  rw [go_read (a := 1) (b := 1) (c := 0) rfl (by decide) (by show (k : Int) ≠ (b.length : Int); omega)]
  show goP addPL [a, b] (n + 2 + 1) ⟨2, [a.getD k default, b.getD k default, 0, 0], [o1], [(k : Int) + 1, (k : Int) + 1]⟩ = _
  rw [go_add (a := 0) (b := 0) (c := 1) rfl (by decide)]
  show goP addPL [a, b] (n + 1 + 1) ⟨3, [wrapT (a.getD k default + b.getD k default), b.getD k default, 0, 0], [o1], [(k : Int) + 1, (k : Int) + 1]⟩ = _
  rw [go_write (a := 0) (b := 0) (c := 0) rfl (by decide) (by show o1.length < 400; exact h1) (by show 0 < 4; omega)]
  show goP addPL [a, b] (n + 1) ⟨4, [wrapT (a.getD k default + b.getD k default), b.getD k default, 0, 0], [o1 ++ [wrapT (a.getD k default + b.getD k default)]], [(k : Int) + 1, (k : Int) + 1]⟩ = _
  rw [go_jump (a := 0) (b := 0) (c := 0) rfl (by decide) (by show 0 < 4; omega)]
  rfl
theorem add_run {a b : List Int} (ha : a.length < 400) : ∀ m k f r r2, k + m = min a.length b.length → 5 * m + 1 ≤ f → ∃ pc' rs' p, goP addPL [a, b] f ⟨0, [r, r2, 0, 0], [addL a b k], [(k : Int), (k : Int)]⟩ = (⟨pc', rs', [addL a b (min a.length b.length)], [((min a.length (min a.length b.length + 1) : Nat) : Int), ((min a.length b.length : Nat) : Int)]⟩, 2, p)
  | 0, k, f, r, r2, hk, hf => by
    obtain rfl : k = min a.length b.length := by omega
    by_cases h : a.length ≤ b.length
    · have e1 : min a.length (min a.length b.length + 1) = min a.length b.length := by omega
      rw [e1]
      exact ⟨_, _, _, go_end (a := 0) (b := 0) (c := 0) rfl (by decide) (by show ((min a.length b.length : Nat) : Int) = (a.length : Int); omega)⟩
    · obtain ⟨f, rfl⟩ : ∃ g, f = g + 1 := ⟨f - 1, by omega⟩
      have e1 : min a.length (min a.length b.length + 1) = min a.length b.length + 1 := by omega
      rw [e1, go_read (a := 0) (b := 0) (c := 0) rfl (by decide) (by show ((min a.length b.length : Nat) : Int) ≠ (a.length : Int); omega)]
      exact ⟨_, _, _, go_end (a := 1) (b := 1) (c := 0) rfl (by decide) (by show ((min a.length b.length : Nat) : Int) = (b.length : Int); omega)⟩
  | m + 1, k, f, r, r2, hk, hf => by
    obtain ⟨f, rfl⟩ : ∃ g, f = g + 5 := ⟨f - 5, by omega⟩
    have hl := addL_len a b k
    rw [add_round (by omega) (by omega) (by omega)]
    exact add_run ha m (k + 1) f _ _ (by omega) (by omega)
end Go.Proofs.Ytmijpnghcggdfaa.Ab
