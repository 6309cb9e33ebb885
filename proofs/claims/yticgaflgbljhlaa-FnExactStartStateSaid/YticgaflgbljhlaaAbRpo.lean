/- A run of a process, told for all arguments. -/
import Derived.Test.YticgaflgbljhlaaAbNst
namespace Go.Proofs.Yticgaflgbljhlaa.Ab
open Go
/-- Rows that fit into memory. -/
def LW (ins : List (List Int)) : Prop := ∀ r ∈ ins, r.length < 17592186044416
def runBad (i o : Int) (l : List I4) (ins : List (List Int)) (fuel : Int) : Bool := !(progOk i o l) || (ins.length : Int) != i || decide (fuel < 0) || decide (fuel > 3000) || !(ins.all strOk)
def runO (i o : Int) (l : List I4) (ins : List (List Int)) (fuel : Int) : List (List Int) × List Int × Int × Bool :=
  if runBad i o l ins fuel = true then ([], [], 0, false) else ((goP l ins fuel.toNat (ps0 i o)).1.outs, (goP l ins fuel.toNat (ps0 i o)).1.used, (goP l ins fuel.toNat (ps0 i o)).2.1, true)
theorem runBad_false {i o : Int} {l : List I4} {ins : List (List Int)} {fuel : Int} (h : runBad i o l ins fuel = false) : progOk i o l = true ∧ IW i ins ∧ 0 ≤ fuel ∧ fuel ≤ 3000 ∧ ins.all strOk = true := by
  simp only [runBad, Bool.or_eq_false_iff, Bool.not_eq_false', bne_eq_false_iff_eq, decide_eq_false_iff_not] at h
  obtain ⟨⟨⟨⟨h1, h2⟩, h3⟩, h4⟩, h5⟩ := h
  exact ⟨h1, ⟨h2, fun r hr => List.all_eq_true.1 h5 r hr⟩, by omega, by omega, h5⟩
end Go.Proofs.Yticgaflgbljhlaa.Ab
