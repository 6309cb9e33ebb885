/- Runs of small programs, step by step: plain laws. -/
import Derived.Test.YtimgfinlbhodhaaFwGd
import Derived.Test.YtimgfinlbhodhaaAbSums
namespace Go.Proofs.Ytimgfinlbhodhaa.Ab
open Go
set_option linter.unusedVariables false
set_option linter.unusedSimpArgs false
section
variable {l : List I4} {ins : List (List Int)} {n : Nat} {pc : Int} {a b c : Int} {rs : List Int} {outs : List (List Int)} {used : List Int}
theorem want_read (hx : l.getD pc.toNat default = (1, a, b, c)) (hp : pc ≠ (l.length : Int)) : wantK l pc = (2, b) := by
  unfold wantK
  rw [if_neg hp, hx]
  rfl
theorem want_write (hx : l.getD pc.toNat default = (2, a, b, c)) (hp : pc ≠ (l.length : Int)) : wantK l pc = (3, b) := by
  unfold wantK
  rw [if_neg hp, hx]
  rfl
theorem want_other {op : Int} (hx : l.getD pc.toNat default = (op, a, b, c)) (hp : pc ≠ (l.length : Int)) (h1 : op ≠ 1) (h2 : op ≠ 2) (h3 : op ≠ 11) : wantK l pc = (1, 0) := by
  unfold wantK
  rw [if_neg hp, hx]
  simp only
  rw [if_neg h3, if_neg h1, if_neg h2]
theorem set_own {rs : List Int} {k : Nat} (h : k < rs.length) : rs.set k (rs.getD k default) = rs := by
  rw [List.getD_eq_getElem?_getD, List.getElem?_eq_getElem h]
  exact List.set_getElem_self h
theorem go_read (hx : l.getD pc.toNat default = (1, a, b, c)) (hp : pc ≠ (l.length : Int)) (hu : used.getD b.toNat default ≠ ((ins.getD b.toNat default).length : Int)) :
    goP l ins (n + 1) ⟨pc, rs, outs, used⟩ = goP l ins n ⟨pc + 1, rs.set a.toNat ((ins.getD b.toNat default).getD (used.getD b.toNat default).toNat default), outs, used.set b.toNat (used.getD b.toNat default + 1)⟩ := by
  have hw := want_read hx hp
  rw [goP_succ (by rw [stopP_two (p := b) (by rw [hw]) (by rw [hw])]; exact beq_eq_false_iff_ne.2 hu)]
  congr 1
  simp only [nextP, xP, wP, tokP, hw, hx, stepPc, stepRs, valR, if_true, if_false, Int.reduceEq, false_and, or_self]
theorem go_end (hx : l.getD pc.toNat default = (1, a, b, c)) (hp : pc ≠ (l.length : Int)) (hu : used.getD b.toNat default = ((ins.getD b.toNat default).length : Int)) :
    goP l ins n ⟨pc, rs, outs, used⟩ = (⟨pc, rs, outs, used⟩, 2, b) := by
  have hw := want_read hx hp
  rw [goP_stop (by rw [stopP_two (p := b) (by rw [hw]) (by rw [hw])]; exact beq_iff_eq.2 hu)]
  simp only [wP, hw]
theorem go_write (hx : l.getD pc.toNat default = (2, a, b, c)) (hp : pc ≠ (l.length : Int)) (hu : (outs.getD b.toNat default).length < 400) (ha : a.toNat < rs.length) :
    goP l ins (n + 1) ⟨pc, rs, outs, used⟩ = goP l ins n ⟨pc + 1, rs, outs.set b.toNat (outs.getD b.toNat default ++ [rs.getD a.toNat default]), used⟩ := by
  have hw := want_write hx hp
  rw [goP_succ (by rw [stopP_three (p := b) (by rw [hw]) (by rw [hw])]; exact beq_eq_false_iff_ne.2 (by simp only; omega))]
  congr 1
  simp only [nextP, xP, wP, tokP, hw, hx, stepPc, stepRs, stepW, valR, rg, if_true, if_false, Int.reduceEq, false_and, or_self, set_own ha]
theorem go_other {op : Int} (hx : l.getD pc.toNat default = (op, a, b, c)) (hp : pc ≠ (l.length : Int)) (h1 : op ≠ 1) (h2 : op ≠ 2) (h3 : op ≠ 11) :
    goP l ins (n + 1) ⟨pc, rs, outs, used⟩ = goP l ins n ⟨stepPc (op, a, b, c) pc rs, stepRs (op, a, b, c) rs 0, outs, used⟩ := by
  have hw := want_other hx hp h1 h2 h3
  have hs : stopP l ins ⟨pc, rs, outs, used⟩ = false := by
    unfold stopP wP
    rw [hw]
    rfl
  rw [goP_succ hs]
  congr 1
  simp only [nextP, xP, wP, tokP, hw, hx, if_false, Int.reduceEq]
theorem go_jump (hx : l.getD pc.toNat default = (8, a, b, c)) (hp : pc ≠ (l.length : Int)) (ha : a.toNat < rs.length) :
    goP l ins (n + 1) ⟨pc, rs, outs, used⟩ = goP l ins n ⟨b, rs, outs, used⟩ := by
  rw [go_other hx hp (by omega) (by omega) (by omega)]
  congr 1
  simp only [stepPc, stepRs, valR, rg, if_true, if_false, Int.reduceEq, true_or, set_own ha]
theorem go_add (hx : l.getD pc.toNat default = (4, a, b, c)) (hp : pc ≠ (l.length : Int)) :
    goP l ins (n + 1) ⟨pc, rs, outs, used⟩ = goP l ins n ⟨pc + 1, rs.set a.toNat (wrapT (rs.getD b.toNat default + rs.getD c.toNat default)), outs, used⟩ := by
  rw [go_other hx hp (by omega) (by omega) (by omega)]
  simp only [stepPc, stepRs, valR, rg, if_true, if_false, Int.reduceEq, false_and, or_self]
end
end Go.Proofs.Ytimgfinlbhodhaa.Ab
