/- A step, told for all arguments. -/
import Derived.Test.YticgaflgbljhlaaAbStp
namespace Go.Proofs.Yticgaflgbljhlaa.Ab
open Go
def stepBad (i o : Int) (l : List I4) (pc : Int) (rs : List Int) (token : Int) : Bool := !(progOk i o l && actOk pc l.length rs) || ((wantK l pc).1 == 0) || ((wantK l pc).1 == 2 && !(tok token))
def stepO (i o : Int) (l : List I4) (pc : Int) (rs : List Int) (token : Int) : (Int × List Int) × Int × Bool :=
  if stepBad i o l pc rs token = true then ((0, []), 0, false) else ((stepPc (l.getD pc.toNat default) pc rs, stepRs (l.getD pc.toNat default) rs token), stepW (l.getD pc.toNat default) rs, true)
theorem wantK_lt {l : List I4} {pc : Int} (h1 : pc ≤ (l.length : Int)) (h : ¬ (wantK l pc).1 = 0) : pc < (l.length : Int) := by
  rcases Int.lt_or_lt_of_ne (a := pc) (b := (l.length : Int)) (fun e => h (by unfold wantK; rw [if_pos e])) with h | h <;> omega
theorem stepRs_len (x : I4) (rs : List Int) (t : Int) : (stepRs x rs t).length = rs.length := by simp [stepRs]
theorem actOk_len {pc n : Int} {rs : List Int} (h : actOk pc n rs = true) : rs.length = 4 := by
  simp only [actOk, Bool.and_eq_true, beq_iff_eq] at h
  omega
theorem progOk_len {i o : Int} {l : List I4} (h : progOk i o l = true) : l.length ≤ 24 := by
  simp only [progOk, inR, Bool.and_eq_true, decide_eq_true_eq] at h
  omega
theorem stepO_len (i o : Int) (l : List I4) (pc : Int) (rs : List Int) (token : Int) : (stepO i o l pc rs token).1.2.length ≤ 4 := by
  unfold stepO
  split
  · simp
  · rename_i h
    simp only [stepBad, Bool.or_eq_true, Bool.not_eq_true', not_or, Bool.not_eq_false, Bool.and_eq_true] at h
    simp only [stepRs_len, actOk_len h.1.1.2]
    exact Nat.le_refl _
end Go.Proofs.Yticgaflgbljhlaa.Ab
