/- What a step of a process makes: plain definitions and lemmas. -/
import Derived.Test.YticgaflgbljhlaaAbP6
import Derived.Test.YticgaflgbljhlaaFwB
namespace Go.Proofs.Yticgaflgbljhlaa.Ab
open Go
set_option linter.unusedVariables false
set_option linter.unusedSimpArgs false

theorem tmod_cases (a n : Int) (hn : 0 < n) : (0 ≤ a ∧ a.tmod n = a % n) ∨ (a < 0 ∧ a.tmod n = -((-a) % n)) := by
  by_cases h : a < 0
  · refine .inr ⟨h, ?_⟩
    have h1 := Int.tmod_eq_emod_of_nonneg (b := n) (show 0 ≤ -a by omega)
    rw [Int.neg_tmod] at h1
    omega
  · exact .inl ⟨by omega, Int.tmod_eq_emod_of_nonneg (by omega)⟩
theorem tmod_lt (a n : Int) (hn : 0 < n) : -n < a.tmod n ∧ a.tmod n < n := by
  have h1 := Int.emod_lt_of_pos a hn
  have h2 := Int.emod_nonneg a (show n ≠ 0 by omega)
  have h3 := Int.emod_lt_of_pos (-a) hn
  have h4 := Int.emod_nonneg (-a) (show n ≠ 0 by omega)
  rcases tmod_cases a n hn with ⟨_, e⟩ | ⟨_, e⟩ <;> rw [e] <;> omega
/-- The token that a number is wrapped to. -/
def wrapT (n : Int) : Int := if n.tmod 1999999 > 999999 then n.tmod 1999999 - 1999999 else if n.tmod 1999999 < -999999 then n.tmod 1999999 + 1999999 else n.tmod 1999999
theorem wrapT_tok (n : Int) : -999999 ≤ wrapT n ∧ wrapT n ≤ 999999 := by
  have := tmod_lt n 1999999 (by omega)
  unfold wrapT
  split
  · omega
  · split <;> omega
theorem mul_tok {a b : Int} (ha : -999999 ≤ a ∧ a ≤ 999999) (hb : -999999 ≤ b ∧ b ≤ 999999) : -999998000001 ≤ a * b ∧ a * b ≤ 999998000001 := by
  have h1 := Int.mul_nonneg (show 0 ≤ 999999 - a by omega) (show 0 ≤ 999999 - b by omega)
  have h2 := Int.mul_nonneg (show 0 ≤ 999999 + a by omega) (show 0 ≤ 999999 + b by omega)
  have h3 := Int.mul_nonneg (show 0 ≤ 999999 - a by omega) (show 0 ≤ 999999 + b by omega)
  have h4 := Int.mul_nonneg (show 0 ≤ 999999 + a by omega) (show 0 ≤ 999999 - b by omega)
  simp only [Int.sub_mul, Int.mul_sub, Int.add_mul, Int.mul_add] at h1 h2 h3 h4
  omega
/-- The remainder. -/
def restT (x c : Int) : Int := if c = 0 then 0 else if x.tmod (max c (-c)) < 0 then x.tmod (max c (-c)) + max c (-c) else x.tmod (max c (-c))
theorem restT_ok {x c : Int} (hc : -999999 ≤ c ∧ c ≤ 999999) : 0 ≤ restT x c ∧ restT x c ≤ 999999 := by
  unfold restT
  split
  · omega
  · have hm : 0 < max c (-c) := by omega
    have := tmod_lt x (max c (-c)) hm
    split <;> omega
def rg (rs : List Int) (k : Int) : Int := rs.getD k.toNat default
/-- What an instruction puts into its register A. -/
def valR (x : I4) (rs : List Int) (token : Int) : Int :=
  if x.1 = 1 then token else if x.1 = 3 then x.2.2.1 else if x.1 = 4 then wrapT (rg rs x.2.2.1 + rg rs x.2.2.2) else if x.1 = 5 then wrapT (rg rs x.2.2.1 - rg rs x.2.2.2)
  else if x.1 = 6 then wrapT (rg rs x.2.2.1 * rg rs x.2.2.2) else if x.1 = 7 then restT (rg rs x.2.2.1) (rg rs x.2.2.2) else rg rs x.2.1
def stepRs (x : I4) (rs : List Int) (token : Int) : List Int := rs.set x.2.1.toNat (valR x rs token)
def stepPc (x : I4) (pc : Int) (rs : List Int) : Int := if x.1 = 8 ∨ (x.1 = 9 ∧ rg rs x.2.1 = 0) ∨ (x.1 = 10 ∧ rg rs x.2.1 < 0) then x.2.2.1 else pc + 1
def stepW (x : I4) (rs : List Int) : Int := if x.1 = 2 then rg rs x.2.1 else 0
/-- Registers and operands are where they should be. -/
structure RegOk (x : I4) (rs : List Int) : Prop where
  a0 : 0 ≤ x.2.1
  a1 : x.2.1 < (rs.length : Int)
  b0 : x.1 = 4 ∨ x.1 = 5 ∨ x.1 = 6 ∨ x.1 = 7 → 0 ≤ x.2.2.1 ∧ x.2.2.1 < (rs.length : Int) ∧ 0 ≤ x.2.2.2 ∧ x.2.2.2 < (rs.length : Int)
  t : ∀ r ∈ rs, -999999 ≤ r ∧ r ≤ 999999
  b8 : rs.length ≤ 400
theorem RegOk.rg {x : I4} {rs : List Int} (h : RegOk x rs) {k : Int} (h0 : 0 ≤ k) (h1 : k < (rs.length : Int)) : -999999 ≤ rg rs k ∧ rg rs k ≤ 999999 := by
  have hk : k.toNat < rs.length := by omega
  unfold Ab.rg
  rw [List.getD_eq_getElem?_getD, List.getElem?_eq_getElem hk]
  exact h.t _ (List.getElem_mem hk)
theorem tok_iff {x : Int} : tok x = true ↔ -999999 ≤ x ∧ x ≤ 999999 := by simp [tok, inR]
theorem regOk_of {i o : Int} {l : List I4} {pc : Int} {rs : List Int} (hp : progOk i o l = true) (ha : actOk pc l.length rs = true) (h0 : 0 ≤ pc) (h1 : pc < (l.length : Int)) : RegOk (l.getD pc.toNat default) rs ∧ opsOk i o l.length (l.getD pc.toNat default) = true := by
  have hk : pc.toNat < l.length := by omega
  have hx : opsOk i o l.length (l.getD pc.toNat default) = true := by
    simp only [progOk, Bool.and_eq_true] at hp
    have := List.all_eq_true.1 hp.2 (l[pc.toNat]) (List.getElem_mem hk)
    simpa [hk] using this
  refine ⟨?_, hx⟩
  generalize l.getD pc.toNat default = x at hx ⊢
  simp only [actOk, strOk, Bool.and_eq_true, beq_iff_eq, decide_eq_true_eq, List.all_eq_true] at ha
  obtain ⟨⟨_, h4⟩, h5, h6⟩ := ha
  have hr : ∀ r ∈ rs, -999999 ≤ r ∧ r ≤ 999999 := fun r hr => tok_iff.1 (h5 r hr)
  have hA : 0 ≤ x.2.1 ∧ x.2.1 < 4 := by
    unfold opsOk at hx
    repeat' split at hx
    all_goals simp [inR] at hx
    all_goals omega
  refine ⟨hA.1, by omega, fun h => ?_, hr, by omega⟩
  have h1 : x.1 ≠ 1 := by omega
  have h2 : x.1 ≠ 2 := by omega
  have h3 : x.1 ≠ 3 := by omega
  unfold opsOk at hx
  rw [if_neg h1, if_neg h2, if_neg h3, if_pos h] at hx
  simp [inR] at hx
  omega
theorem valR_tok {i o n : Int} {x : I4} {rs : List Int} {token : Int} (h : RegOk x rs) (hx : opsOk i o n x = true) (ht : x.1 = 1 → -999999 ≤ token ∧ token ≤ 999999) : -999999 ≤ valR x rs token ∧ valR x rs token ≤ 999999 := by
  unfold valR
  split
  · rename_i h1; exact ht h1
  · split
    · rename_i h1 h3
      unfold opsOk at hx
      rw [if_neg (by omega), if_neg (by omega), if_pos h3] at hx
      simp [tok, inR] at hx
      omega
    · split
      · exact wrapT_tok _
      · split
        · exact wrapT_tok _
        · split
          · exact wrapT_tok _
          · split
            · rename_i h7
              obtain ⟨b1, b2, b3, b4⟩ := h.b0 (by omega)
              have := restT_ok (x := rg rs x.2.2.1) (h.rg b3 b4)
              omega
            · exact h.rg h.a0 h.a1
end Go.Proofs.Yticgaflgbljhlaa.Ab
