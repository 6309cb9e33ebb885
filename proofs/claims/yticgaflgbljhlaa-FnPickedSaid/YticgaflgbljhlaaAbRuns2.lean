/- What runs of the sample programs answer. -/
import Derived.Test.YticgaflgbljhlaaAbRuns
import Derived.Test.YticgaflgbljhlaaFwGd
namespace Go.Proofs.Yticgaflgbljhlaa.Ab
open Go
set_option linter.unusedVariables false
set_option linter.unusedSimpArgs false
theorem mkStream_len2 (bs : List Int) {n : Int} (h0 : 0 ≤ n) : ((mkStream bs n).length : Int) ≤ n := by
  unfold mkStream tokS
  rw [toksN_len]
  have := bel_ok bs 0 (newH bs (min bs.length 4000)) (n := max 0 (min n 100) + 1) (by omega)
  omega
theorem runBad_no {i o : Int} {l : List I4} {ins : List (List Int)} {fuel : Int} (hp : progOk i o l = true) (hi : (ins.length : Int) = i) (h0 : 0 ≤ fuel) (h1 : fuel ≤ 3000) (hs : ins.all strOk = true) : runBad i o l ins fuel = false := by
  unfold runBad
  rw [hp, hs, decide_eq_false (by omega), decide_eq_false (by omega)]
  simp [hi]
theorem runO_eq {i o : Int} {l : List I4} {ins : List (List Int)} {fuel : Int} {R : PS} {w p : Int} (hp : progOk i o l = true) (hi : (ins.length : Int) = i) (h0 : 0 ≤ fuel) (h1 : fuel ≤ 3000) (hs : ins.all strOk = true) (hg : goP l ins fuel.toNat (ps0 i o) = (R, w, p)) : runO i o l ins fuel = (R.outs, R.used, w, true) := by
  unfold runO
  rw [runBad_no hp hi h0 h1 hs, hg]
  rfl
end Go.Proofs.Yticgaflgbljhlaa.Ab
