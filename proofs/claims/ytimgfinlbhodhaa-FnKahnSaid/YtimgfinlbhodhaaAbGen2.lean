/- Programs that are drawn: they read ahead of all else, and jumps go forward, but for the last one. What is written then stays short. -/
import Derived.Test.YtimgfinlbhodhaaAbGen
import Derived.Test.YtimgfinlbhodhaaAbMono
namespace Go.Proofs.Ytimgfinlbhodhaa.Ab
open Go
set_option linter.unusedVariables false
set_option linter.unusedSimpArgs false
def fwB (k : Nat) (x : I4) : Bool := !(x.1 == 8) && (!(x.1 == 9 || x.1 == 10) || decide ((k : Int) < x.2.2.1)) && (!(k == 0) || (x.1 == 1 && x.2.2.1 == 0))
structure RF (i o : Int) (L : List (List Int)) (B : Nat) : Prop where
 rw : RW i o L B
 fw : ∀ k < L.length, fwB k (pad4 (L.getD k default)) = true
structure RFp (i o : Int) (L : List (List Int)) (B : Nat) : Prop where
 rf : RF i o L B
 pos : 0 < L.length
section
variable {i o : Int} {L : List (List Int)} {B B' : Nat} {r : List Int}
theorem RF.more (h : RF i o L B) (hb : B ≤ B') : RF i o L B' := ⟨h.rw.more hb, h.fw⟩
theorem RF.len (h : RF i o L B) : L.length ≤ B := h.rw.len
theorem RFp.more (h : RFp i o L B) (hb : B ≤ B') : RFp i o L B' := ⟨h.rf.more hb, h.pos⟩
theorem RFp.len (h : RFp i o L B) : L.length ≤ B := h.rf.rw.len
theorem RFp.ok (h : RFp i o L B) : ∀ r ∈ L, rowOk i o ((L.length : Int) + 1) r := h.rf.rw.ok
end
structure FwP (l : List I4) : Prop where
 op0 : (l.getD 0 default).1 = 1
 pt0 : (l.getD 0 default).2.2.1 = 0
 jmp : ∀ k : Nat, 0 < k → k < l.length → ∀ rs, stepPc (l.getD k default) k rs = 0 ∨ (k : Int) < stepPc (l.getD k default) k rs
structure FwI (s : PS) : Prop where
 at0 : s.pc = 0 → ∀ k : Nat, ((s.outs.getD k default).length : Int) ≤ 24 * s.used.getD 0 default
 on : 0 < s.pc → 1 ≤ s.used.getD 0 default ∧ ∀ k : Nat, ((s.outs.getD k default).length : Int) ≤ 24 * (s.used.getD 0 default - 1) + s.pc
section
variable {i o : Int} {l : List I4} {ins : List (List Int)} {s : PS}
theorem next_used (s : PS) (k : Nat) : s.used.getD k default ≤ (nextP l ins s).used.getD k default := by
 simp only [nextP]
 split
 ·rw [gset_any]
  split
  ·rename_i h; rw [h.1]; omega
  ·omega
 ·omega
end
end Go.Proofs.Ytimgfinlbhodhaa.Ab
