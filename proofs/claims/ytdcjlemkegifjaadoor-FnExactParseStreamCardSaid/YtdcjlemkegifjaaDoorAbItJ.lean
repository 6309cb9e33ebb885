/- strconv.Itoa and strings.Join, as abstract values tell them. -/
import Derived.Test.YtdcjlemkegifjaaDoorAbShA
import Derived.Test.YtdcjlemkegifjaaDoorAbNum
import Derived.Lib.QuietBelow
namespace Go.Proofs.YtdcjlemkegifjaaDoor.Ab
open Go Go.Proofs Go.RowKit
set_option linter.unusedVariables false
set_option linter.unusedSimpArgs false
theorem fr_below {w w' : World} (h : Below w.heap.size w w') : Fr (fun _ => False) w w' := ⟨h.os, h.tape, h.output, h.size, fun k hk _ => h.block k hk⟩
def TabC (w : World) : Prop := Lib.TabIs Tryd.prog w "internal/strconv.uint64pow10" .u64 Lib.pow10Tab
theorem var_lasts {P : Program} {w w' : World} {n : String} {cs : Array Value} (hw : Fr (fun _ => False) w w') (h : w.var? P n = some cs) : w'.var? P n = some cs := by
 unfold World.var? at *
 cases hg : P.globalNamed n with
 | none => simp [hg] at h
 | some g =>
  simp only [hg, Option.bind_some] at h ⊢
  have hlt : g < w.heap.size := by
   rcases Nat.lt_or_ge g w.heap.size with h' | h'
   ·exact h'
   ·rw [Array.getElem?_eq_none h'] at h; simp at h
  rw [hw.block g hlt (fun h => h)]
  exact h
theorem tab_lasts : Lasts TabC := fun w w' hw h => var_lasts hw h
def sv (l : List UInt8) : List A := [.str (sb l)]
theorem pureLL_sv (l : List (List UInt8)) : pureLL (l.map sv) = true := pureLL_all (fun _ => rfl) l
theorem roLL_sv (l : List (List UInt8)) : roLL (l.map sv) = l.map sv := roLL_all (fun _ => rfl) l
theorem noLoanLL_sv (l : List (List UInt8)) : noLoanLL (l.map sv) = true := noLoanLL_all (fun _ => rfl) l
theorem rnLL_sv (s : List Nat) (l : List (List UInt8)) : rnLL s (l.map sv) = l.map sv := rnLL_pure (pureLL_sv l)
theorem refsLL_sv (l : List (List UInt8)) : refsLL (l.map sv) = [] := refsLL_pure (pureLL_sv l)
end Go.Proofs.YtdcjlemkegifjaaDoor.Ab
