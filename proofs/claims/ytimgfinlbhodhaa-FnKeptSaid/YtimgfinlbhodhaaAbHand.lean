/- A process that is stepped by hand: plain law. -/
import Derived.Test.YtimgfinlbhodhaaAbGen2
import Derived.Test.YtimgfinlbhodhaaAbMono2
import Derived.Test.YtimgfinlbhodhaaAbByt
namespace Go.Proofs.Ytimgfinlbhodhaa.Ab
open Go
set_option linter.unusedVariables false
set_option linter.unusedSimpArgs false
section
variable {i o : Int} {l : List I4} {ins less : List (List Int)} {s : PS}
theorem stepW_tok {x : I4} {rs : List Int} (h : RegOk x rs) : tok (stepW x rs) = true := by
 unfold stepW
 split
 ·have h0 := h.a0
  have h1 := h.a1
  have : rg rs x.2.1 ∈ rs := by unfold rg; exact getD_mem0 (by omega)
  exact tok_iff.2 (h.t _ this)
 ·decide
theorem str_snoc {a : List Int} {v : Int} (h : strOk a = true) (hv : tok v = true) (hl : a.length < 400) : strOk (a ++ [v]) = true := by
 simp only [strOk, Bool.and_eq_true, decide_eq_true_eq, List.all_append, List.length_append, List.all_cons, List.all_nil, List.length_cons, List.length_nil] at h ⊢
 refine ⟨⟨h.1, hv, trivial⟩, by omega⟩
theorem next_str (hp : progOk i o l = true) (w : PW i o l ins s) (hs : stopP l ins s = false) (h : s.outs.all strOk = true) : (nextP l ins s).outs.all strOk = true := by
 obtain ⟨n0, n2, n3⟩ := stopP_false hs
 obtain ⟨hr, hx⟩ := w.reg hp n0
 rw [List.all_eq_true] at h ⊢
 intro r hr2
 simp only [nextP] at hr2
 split at hr2
 ·rename_i hw
  obtain ⟨p0, p1⟩ := w.write hp hw
  have hol := w.ol
  rcases List.mem_or_eq_of_mem_set hr2 with e | e
  ·exact h r e
  ·rw [e]
   have hm : s.outs.getD (wP l s).2.toNat default ∈ s.outs := getD_mem0 (by omega)
   have := w.ob _ hm
   have := n3 hw
   exact str_snoc (h _ hm) (stepW_tok hr) (by omega)
 ·exact h r hr2
theorem run_str (hp : progOk i o l = true) (hi : IW i ins) : ∀ (n : Nat) (s : PS), PW i o l ins s → s.outs.all strOk = true → (goP l ins n s).1.outs.all strOk = true
 | 0, s, _, h => by unfold goP; split <;> exact h
 | n + 1, s, w, h => by
  unfold goP
  split
  ·exact h
  ·rename_i hs
   have hs2 : stopP l ins s = false := by simpa using hs
   exact run_str hp hi n _ (w.next hp hi hs2) (next_str hp w hs2 h)
theorem ps0_str (i o : Int) : (ps0 i o).outs.all strOk = true := by
 rw [List.all_eq_true]
 intro r hr
 rw [(List.mem_replicate.1 hr).2]
 rfl
theorem run_yes {fuel : Int} (hp : progOk i o l = true) (hi : IW i ins) (h0 : 0 ≤ fuel) (h1 : fuel ≤ 3000) : runO i o l ins fuel = ((goP l ins fuel.toNat (ps0 i o)).1.outs, (goP l ins fuel.toNat (ps0 i o)).1.used, (goP l ins fuel.toNat (ps0 i o)).2.1, true) := by
 have hb : runBad i o l ins fuel = false := by
  have hil := hi.il
  have ha : ins.all strOk = true := List.all_eq_true.2 hi.it
  unfold runBad
  rw [hp, ha]
  simp [hil]
  omega
 unfold runO
 rw [if_neg (by rw [hb]; simp)]
end
end Go.Proofs.Ytimgfinlbhodhaa.Ab
