/- What runs of the sample programs answer. -/
import Derived.Test.YtmijpnghcggdfaaAbRuns
import Derived.Test.YtmijpnghcggdfaaAbRpo
namespace Go.Proofs.Ytmijpnghcggdfaa.Ab
open Go
set_option linter.unusedVariables false
set_option linter.unusedSimpArgs false
theorem mkStream_len2 (bs : List Int) {n : Int} (h0 : 0 ≤ n) : ((mkStream bs n).length : Int) ≤ n := by
  unfold mkStream tokS
  rw [toksN_len]
  have := bel_ok bs 0 (newH bs (min bs.length 4000)) (n := max 0 (min n 100) + 1) (by omega)
  omega
theorem runBad_no {i o : Int} {l : List I4} {ins : List (List Int)} {fuel : Int} (hp : progOk i o l = true) (hi : (ins.length : Int) = i) (h0 : 0 ≤ fuel) (h1 : fuel ≤ 3000) (hs : ins.all strOk = true) : runBad i o l ins fuel = false := by
  unfold runBad
  rw [hp, hs, decide_eq_false (by omega), decide_eq_false (by omega)]
  simp [hi]
theorem runO_eq {i o : Int} {l : List I4} {ins : List (List Int)} {fuel : Int} {R : PS} {w p : Int} (hp : progOk i o l = true) (hi : (ins.length : Int) = i) (h0 : 0 ≤ fuel) (h1 : fuel ≤ 3000) (hs : ins.all strOk = true) (hg : goP l ins fuel.toNat (ps0 i o) = (R, w, p)) : runO i o l ins fuel = (R.outs, R.used, w, true) := by
  unfold runO
  rw [runBad_no hp hi h0 h1 hs, hg]
  rfl
theorem all1 {a : List Int} (ha : strOk a = true) : [a].all strOk = true := by simp [ha]
theorem all2 {a b : List Int} (ha : strOk a = true) (hb : strOk b = true) : [a, b].all strOk = true := by simp [ha, hb]
theorem copy_out {a : List Int} (ha : strOk a = true) (h : a.length ≤ 100) : runO 1 2 copyL [a] 500 = ([a, a], [(a.length : Int)], 2, true) := by
  obtain ⟨rs', e⟩ := copy_run (a := a) (by omega) a.length 0 500 0 (by omega) (by omega)
  exact runO_eq (i := 1) (o := 2) (l := copyL) (fuel := 500) (by decide) rfl (by omega) (by omega) (all1 ha) e
theorem split_out {a : List Int} (ha : strOk a = true) (h : a.length ≤ 100) : runO 1 2 splitL [a] 500 = ([(part evenP a a.length).1, (part evenP a a.length).2], [(a.length : Int)], 2, true) := by
  obtain ⟨pc', rs', e⟩ := split_run (a := a) (by omega) a.length 0 500 0 (by omega) (by omega)
  exact runO_eq (i := 1) (o := 2) (l := splitL) (fuel := 500) (by decide) rfl (by omega) (by omega) (all1 ha) e
theorem alt_out {a b : List Int} (ha : strOk a = true) (hb : strOk b = true) (h : a.length ≤ 50) (h2 : b.length ≤ 50) : ∃ us, runO 2 1 altPL [a, b] 500 = ([altL a b (altN a b)], us, 2, true) := by
  obtain ⟨pc', rs', us, p, e⟩ := alt_run (a := a) (b := b) (by omega) (by omega) (altN a b) 0 500 0 (by omega) (by unfold altN; omega)
  exact ⟨us, runO_eq (i := 2) (o := 1) (l := altPL) (fuel := 500) (by decide) rfl (by omega) (by omega) (all2 ha hb) e⟩
theorem add_out {a b : List Int} (ha : strOk a = true) (hb : strOk b = true) (h : a.length ≤ 50) (h2 : b.length ≤ 50) : runO 2 1 addPL [a, b] 500 = ([addL a b (min a.length b.length)], [((min a.length (min a.length b.length + 1) : Nat) : Int), ((min a.length b.length : Nat) : Int)], 2, true) := by
  obtain ⟨pc', rs', p, e⟩ := add_run (a := a) (b := b) (by omega) (min a.length b.length) 0 500 0 0 (by omega) (by omega)
  exact runO_eq (i := 2) (o := 1) (l := addPL) (fuel := 500) (by decide) rfl (by omega) (by omega) (all2 ha hb) e
end Go.Proofs.Ytmijpnghcggdfaa.Ab
