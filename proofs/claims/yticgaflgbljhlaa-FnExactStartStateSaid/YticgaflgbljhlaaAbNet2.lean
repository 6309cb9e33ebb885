/- When a network is valid: the other way, step by step. Plain lemmas. -/
import Derived.Test.YticgaflgbljhlaaAbNet
namespace Go.Proofs.Yticgaflgbljhlaa.Ab
open Go
set_option linter.unusedVariables false
set_option linter.unusedSimpArgs false
section
variable {ps : List PG} {ks : List LK}
theorem pg_one {p : PG} (h : pgOk p = true) : (0 ≤ p.i ∧ p.i ≤ 3) ∧ (0 ≤ p.o ∧ p.o ≤ 3) ∧ 1 ≤ p.l.length ∧ p.l.length ≤ 24 := by
  simp only [pgOk, progOk, inR, Bool.and_eq_true, decide_eq_true_eq] at h
  omega
theorem netI_small (h : (ps.length : Int) > 12 ∨ (ks.length : Int) > 30) : netI ps ks = false := by simp [netI, small_no h]
theorem netI_pg {j : Nat} (hj : j < ps.length) (h : pgOk (ps.getD j default) = false) : netI ps ks = false := by simp [netI, gnot hj h]
theorem netI_lk {j : Nat} (hj : j < ks.length) (h : goodAt ps ks j = false) : netI ps ks = false := by
  unfold netI
  rw [range_no (p := goodAt ps ks) hj h]
  simp
theorem good_ends {j : Nat} (h : endsOk ps (ks.getD j default) = false) : goodAt ps ks j = false := by
  unfold goodAt
  rw [link_no (.inl h), Bool.false_and]
theorem good_link {j : Nat} (h : linkOk ps (ks.getD j default) = false) : goodAt ps ks j = false := by
  unfold goodAt
  rw [h, Bool.false_and]
theorem good_clash {j q : Nat} (hq : q < j) (h : clash (ks.getD j default) (ks.getD q default) = true) : goodAt ps ks j = false := by
  unfold goodAt apartAt
  rw [range_no (i := q) hq (by rw [h]; rfl), Bool.and_false]
theorem good_yes {j : Nat} (h : linkOk ps (ks.getD j default) = true) (h2 : ∀ q < j, clash (ks.getD j default) (ks.getD q default) = false) : goodAt ps ks j = true := by
  unfold goodAt apartAt
  rw [h, Bool.true_and, all_range]
  intro q hq
  rw [h2 q hq]
  rfl
theorem netI_end (hs : netSmall ps ks = true) (hp : ps.all pgOk = true) (hl : ∀ j < ks.length, goodAt ps ks j = true) : netI ps ks = (((gtot endN ks : Nat) : Int) == ((gtot portN ps : Nat) : Int)) := by
  unfold netI
  rw [hs, hp, all_range.2 hl]
  simp only [Bool.true_and]
  rw [Bool.eq_iff_iff, beq_iff_eq, beq_iff_eq]
  omega
/-- The end of a link is a port of a process. -/
def frIn (ps : List PG) (x : LK) : Prop := 0 ≤ x.fr ∧ x.fr < (ps.length : Int) ∧ 0 ≤ x.ou ∧ x.ou < (ps.getD x.fr.toNat default).o
def toIn (ps : List PG) (x : LK) : Prop := 0 ≤ x.to ∧ x.to < (ps.length : Int) ∧ 0 ≤ x.ip ∧ x.ip < (ps.getD x.to.toNat default).i
def frOut (x : LK) : Prop := x.fr = -1 ∧ x.ou = 0
def toOut (x : LK) : Prop := x.to = -1 ∧ x.ip = 0
theorem ends_iff {x : LK} : endsOk ps x = true ↔ (frIn ps x ∨ frOut x) ∧ (toIn ps x ∨ toOut x) ∧ ¬ (frOut x ∧ toOut x) := by
  simp only [endsOk, inR, Bool.and_eq_true, decide_eq_true_eq, Bool.not_eq_true', Bool.and_eq_false_imp, beq_iff_eq, beq_eq_false_iff_ne, frIn, toIn, frOut, toOut]
  by_cases h1 : x.fr ≥ 0 <;> by_cases h2 : x.to ≥ 0
  · rw [if_pos h1, if_pos h2]; omega
  · rw [if_pos h1, if_neg h2]; omega
  · rw [if_neg h1, if_pos h2]; omega
  · rw [if_neg h1, if_neg h2]; omega
theorem ends_noF {x : LK} (h1 : ¬ frIn ps x) (h2 : ¬ frOut x) : endsOk ps x = false := by
  rw [Bool.eq_false_iff]
  intro h
  exact (ends_iff.1 h).1.elim h1 h2
theorem ends_noT {x : LK} (h1 : ¬ toIn ps x) (h2 : ¬ toOut x) : endsOk ps x = false := by
  rw [Bool.eq_false_iff]
  intro h
  exact (ends_iff.1 h).2.1.elim h1 h2
theorem fr_cases (ps : List PG) (x : LK) : (x.fr < 0) ∨ (0 ≤ x.fr ∧ ¬ x.fr < (ps.length : Int)) ∨ (0 ≤ x.fr ∧ x.fr < (ps.length : Int) ∧ ¬ 0 ≤ x.ou) ∨ (0 ≤ x.fr ∧ x.fr < (ps.length : Int) ∧ 0 ≤ x.ou ∧ ¬ x.ou < (ps.getD x.fr.toNat default).o) ∨ frIn ps x := by
  unfold frIn
  omega
theorem to_cases (ps : List PG) (x : LK) : (x.to < 0) ∨ (0 ≤ x.to ∧ ¬ x.to < (ps.length : Int)) ∨ (0 ≤ x.to ∧ x.to < (ps.length : Int) ∧ ¬ 0 ≤ x.ip) ∨ (0 ≤ x.to ∧ x.to < (ps.length : Int) ∧ 0 ≤ x.ip ∧ ¬ x.ip < (ps.getD x.to.toNat default).i) ∨ toIn ps x := by
  unfold toIn
  omega
theorem gtot_bd {α : Type} {f : α → Nat} {c : Nat} {rs : List α} (h : ∀ x ∈ rs, f x ≤ c) : gtot f rs ≤ c * rs.length := by
  induction rs with
  | nil => simp [gtot_nil]
  | cons r rs ih =>
    have := h r (by simp)
    have := ih (fun x hx => h x (by simp [hx]))
    rw [gtot_cons, List.length_cons, Nat.mul_add]
    omega
theorem endN_le (x : LK) : endN x ≤ 2 := by unfold endN; split <;> split <;> omega
theorem endsN_le (ks : List LK) (j : Nat) (h : j ≤ ks.length) : gtot endN (ks.take j) ≤ 2 * j := by
  have := gtot_bd (f := endN) (c := 2) (rs := ks.take j) (fun x _ => endN_le x)
  rw [List.length_take] at this
  omega
theorem clash_no {x y : LK} {ks : List LK} {q : Nat} (hy : ks.getD q default = y) (h : (0 ≤ x.fr ∧ y.fr = x.fr → ¬y.ou = x.ou) ∧ (0 ≤ x.to ∧ y.to = x.to → ¬y.ip = x.ip)) : clash x (ks.getD q default) = false := by
  rw [hy, Bool.eq_false_iff]
  intro hh
  simp only [clash, Bool.or_eq_true, Bool.and_eq_true, beq_iff_eq, decide_eq_true_eq] at hh
  rcases hh with hh | hh
  · exact h.1 hh.1 hh.2
  · exact h.2 hh.1 hh.2
theorem clash_yes {x y : LK} {ks : List LK} {q j : Nat} (hx : ks.getD j default = x) (hy : ks.getD q default = y) (h : (0 ≤ x.fr ∧ y.fr = x.fr) ∧ y.ou = x.ou ∨ (0 ≤ x.to ∧ y.to = x.to) ∧ y.ip = x.ip) : clash (ks.getD j default) (ks.getD q default) = true := by
  rw [hx, hy]
  simp only [clash, Bool.or_eq_true, Bool.and_eq_true, beq_iff_eq, decide_eq_true_eq]
  exact h
theorem clash_of {a b c d e f : Bool} : ((a && b) && c || (d && e) && f) = ((a && b && c) || (d && e && f)) := rfl
end
end Go.Proofs.Yticgaflgbljhlaa.Ab
