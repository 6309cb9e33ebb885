/- Links to and from ports: what is answered. Plain definitions and lemmas. -/
import Derived.Test.YticgaflgbljhlaaAbNet2
namespace Go.Proofs.Yticgaflgbljhlaa.Ab
open Go
set_option linter.unusedVariables false
set_option linter.unusedSimpArgs false
def hasP (ps : List PG) (p : Int) : Bool := decide (p ≥ 0) && decide (p < (ps.length : Int))
def isToC (p q : Int) (x : LK) : Bool := decide (p ≥ 0) && (x.to == p) && (x.ip == q)
def isFrC (p q : Int) (x : LK) : Bool := decide (p ≥ 0) && (x.fr == p) && (x.ou == q)
def toOk (ps : List PG) (ks : List LK) (p q : Int) : Bool := netOk ps ks && hasP ps p && inR q 0 ((ps.getD p.toNat default).i - 1)
def frOk (ps : List PG) (ks : List LK) (p q : Int) : Bool := netOk ps ks && hasP ps p && inR q 0 ((ps.getD p.toNat default).o - 1)
def linkToO (ps : List PG) (ks : List LK) (p q : Int) : Int × Bool := if toOk ps ks p q = true then (onlyAt (isTo p q) ks, true) else (0, false)
def linkFrO (ps : List PG) (ks : List LK) (p q : Int) : Int × Bool := if frOk ps ks p q = true then (onlyAt (isFr p q) ks, true) else (0, false)
section
variable {ps : List PG} {ks : List LK} {p q : Int}
structure NetW (ps : List PG) (ks : List LK) : Prop where
  pl : ps.length ≤ 12
  kl : ks.length ≤ 30
  pg : ps.all pgOk = true
  lk : ∀ k < ks.length, linkOk ps (ks.getD k default) = true
  to : ∀ i < ps.length, ∀ k : Nat, (k : Int) < (ps.getD i default).i → 0 ≤ onlyAt (isTo i k) ks
  fr : ∀ i < ps.length, ∀ k : Nat, (k : Int) < (ps.getD i default).o → 0 ≤ onlyAt (isFr i k) ks
theorem netOk_w (h : netOk ps ks = true) : NetW ps ks := by
  simp only [netOk, netSmall, Bool.and_eq_true, decide_eq_true_eq, all_range] at h
  obtain ⟨⟨⟨h1, h2⟩, h3⟩, h4⟩ := h
  refine ⟨by omega, by omega, h2, fun k hk => List.all_eq_true.1 h3 _ (getD_mem0 hk), fun i hi k hk => ?_, fun i hi k hk => ?_⟩
  · have := h4 i hi
    simp only [portsOk, Bool.and_eq_true, insOk, all_range, decide_eq_true_eq] at this
    exact this.1 k (by omega)
  · have := h4 i hi
    simp only [portsOk, Bool.and_eq_true, outsOk, all_range, decide_eq_true_eq] at this
    exact this.2 k (by omega)
theorem hasP_iff : hasP ps p = true ↔ 0 ≤ p ∧ p < (ps.length : Int) := by simp [hasP]
theorem hasP_lt (h : hasP ps p = true) : p.toNat < ps.length := by have := hasP_iff.1 h; omega
theorem isToC_eq (h : 0 ≤ p) : isToC p q = isTo p q := by
  funext x
  simp [isToC, isTo, h]
theorem isFrC_eq (h : 0 ≤ p) : isFrC p q = isFr p q := by
  funext x
  simp [isFrC, isFr, h]
theorem gidx_none' {α : Type} {f : α → Bool} {l : List α} (h : l.findIdx? f = none) : gidx f l = -1 := by unfold gidx; rw [h]
theorem gidx_some' {α : Type} {f : α → Bool} {l : List α} {a : Nat} (h : l.findIdx? f = some a) : gidx f l = (a : Int) := by unfold gidx; rw [h]
theorem toO_bad (h : netOk ps ks = false) : linkToO ps ks p q = (0, false) := by simp [linkToO, toOk, h]
theorem frO_bad (h : netOk ps ks = false) : linkFrO ps ks p q = (0, false) := by simp [linkFrO, frOk, h]
theorem toO_has (h : hasP ps p = false) : linkToO ps ks p q = (0, false) := by simp [linkToO, toOk, h]
theorem frO_has (h : hasP ps p = false) : linkFrO ps ks p q = (0, false) := by simp [linkFrO, frOk, h]
theorem toO_in (h : inR q 0 ((ps.getD p.toNat default).i - 1) = false) : linkToO ps ks p q = (0, false) := by unfold linkToO toOk; rw [h, Bool.and_false, if_neg (by simp)]
theorem frO_in (h : inR q 0 ((ps.getD p.toNat default).o - 1) = false) : linkFrO ps ks p q = (0, false) := by unfold linkFrO frOk; rw [h, Bool.and_false, if_neg (by simp)]
theorem toO_yes (h : netOk ps ks = true) (h1 : hasP ps p = true) (h2 : inR q 0 ((ps.getD p.toNat default).i - 1) = true) : linkToO ps ks p q = (onlyAt (isTo p q) ks, true) := by unfold linkToO toOk; rw [h, h1, h2, show (true && true && true) = true from rfl, if_pos rfl]
theorem frO_yes (h : netOk ps ks = true) (h1 : hasP ps p = true) (h2 : inR q 0 ((ps.getD p.toNat default).o - 1) = true) : linkFrO ps ks p q = (onlyAt (isFr p q) ks, true) := by unfold linkFrO frOk; rw [h, h1, h2, show (true && true && true) = true from rfl, if_pos rfl]
theorem linkTo_at (hn : netOk ps ks = true) : (if gidx (isToC p q) ks < 0 then ((0 : Int), false) else (gidx (isToC p q) ks, true)) = linkToO ps ks p q := by
  have hw := netOk_w hn
  by_cases hp : hasP ps p = true
  · obtain ⟨p0, p1⟩ := hasP_iff.1 hp
    rw [isToC_eq p0]
    by_cases hq : inR q 0 ((ps.getD p.toNat default).i - 1) = true
    · rw [toO_yes hn hp hq]
      simp only [inR, Bool.and_eq_true, decide_eq_true_eq] at hq
      have h1 := hw.to p.toNat (by omega) q.toNat (by omega)
      rw [show ((p.toNat : Nat) : Int) = p by omega, show ((q.toNat : Nat) : Int) = q by omega] at h1
      rw [gidx_some' (onlyAt_first h1), if_neg (by omega)]
      congr 1
      omega
    · have hq' : inR q 0 ((ps.getD p.toNat default).i - 1) = false := by simpa using hq
      rw [toO_in hq']
      have : ks.findIdx? (isTo p q) = none := by
        refine find_no fun k hk => ?_
        rw [Bool.eq_false_iff]
        intro h
        simp only [isTo, Bool.and_eq_true, beq_iff_eq] at h
        have he := linkOk_ends (hw.lk k hk)
        obtain ⟨_, h2, h3⟩ := ends_to he (by omega)
        apply hq
        rw [h.1] at h3
        simp only [inR, Bool.and_eq_true, decide_eq_true_eq]
        omega
      rw [gidx_none' this, if_pos (by omega)]
  · have hp' : hasP ps p = false := by simpa using hp
    rw [toO_has hp']
    have : ks.findIdx? (isToC p q) = none := by
      refine find_no fun k hk => ?_
      rw [Bool.eq_false_iff]
      intro h
      simp only [isToC, Bool.and_eq_true, beq_iff_eq, decide_eq_true_eq] at h
      have he := linkOk_ends (hw.lk k hk)
      obtain ⟨h1, h2, h3⟩ := ends_to he (by omega)
      exact hp (hasP_iff.2 ⟨by omega, by omega⟩)
    rw [gidx_none' this, if_pos (by omega)]
theorem linkFr_at (hn : netOk ps ks = true) : (if gidx (isFrC p q) ks < 0 then ((0 : Int), false) else (gidx (isFrC p q) ks, true)) = linkFrO ps ks p q := by
  have hw := netOk_w hn
  by_cases hp : hasP ps p = true
  · obtain ⟨p0, p1⟩ := hasP_iff.1 hp
    rw [isFrC_eq p0]
    by_cases hq : inR q 0 ((ps.getD p.toNat default).o - 1) = true
    · rw [frO_yes hn hp hq]
      simp only [inR, Bool.and_eq_true, decide_eq_true_eq] at hq
      have h1 := hw.fr p.toNat (by omega) q.toNat (by omega)
      rw [show ((p.toNat : Nat) : Int) = p by omega, show ((q.toNat : Nat) : Int) = q by omega] at h1
      rw [gidx_some' (onlyAt_first h1), if_neg (by omega)]
      congr 1
      omega
    · have hq' : inR q 0 ((ps.getD p.toNat default).o - 1) = false := by simpa using hq
      rw [frO_in hq']
      have : ks.findIdx? (isFr p q) = none := by
        refine find_no fun k hk => ?_
        rw [Bool.eq_false_iff]
        intro h
        simp only [isFr, Bool.and_eq_true, beq_iff_eq] at h
        have he := linkOk_ends (hw.lk k hk)
        obtain ⟨_, h2, h3⟩ := ends_fr he (by omega)
        apply hq
        rw [h.1] at h3
        simp only [inR, Bool.and_eq_true, decide_eq_true_eq]
        omega
      rw [gidx_none' this, if_pos (by omega)]
  · have hp' : hasP ps p = false := by simpa using hp
    rw [frO_has hp']
    have : ks.findIdx? (isFrC p q) = none := by
      refine find_no fun k hk => ?_
      rw [Bool.eq_false_iff]
      intro h
      simp only [isFrC, Bool.and_eq_true, beq_iff_eq, decide_eq_true_eq] at h
      have he := linkOk_ends (hw.lk k hk)
      obtain ⟨h1, h2, h3⟩ := ends_fr he (by omega)
      exact hp (hasP_iff.2 ⟨by omega, by omega⟩)
    rw [gidx_none' this, if_pos (by omega)]
/-- The places of links. -/
def whereL (f : LK → Bool) (ks : List LK) : Nat → List Int
  | 0 => []
  | n + 1 => if f (ks.getD n default) = true then whereL f ks n ++ [(n : Int)] else whereL f ks n
theorem whereL_len (f : LK → Bool) (ks : List LK) (n : Nat) : (whereL f ks n).length ≤ n := by
  induction n with
  | zero => simp [whereL]
  | succ n ih =>
    unfold whereL
    split
    · simp; omega
    · omega
def putsO (f : LK → Bool) (ps : List PG) (ks : List LK) : List Int := if netOk ps ks = true then whereL f ks ks.length else []
theorem putsO_len (f : LK → Bool) (ps : List PG) (ks : List LK) : (putsO f ps ks).length ≤ 30 := by
  unfold putsO
  split
  · rename_i h
    have := whereL_len f ks ks.length
    have := (netOk_w h).kl
    omega
  · simp
def isIn (x : LK) : Bool := x.fr == -1
def isOut (x : LK) : Bool := x.to == -1
end
end Go.Proofs.Yticgaflgbljhlaa.Ab
