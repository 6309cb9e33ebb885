/- A process that is stepped by hand: plain law. -/
import Derived.Test.YtimgfinlbhodhaaAbGen2
import Derived.Test.YtimgfinlbhodhaaAbMono2
import Derived.Test.YtimgfinlbhodhaaAbByt
import Derived.Test.YtimgfinlbhodhaaFwGc
import Derived.Test.YtimgfinlbhodhaaFwGd
namespace Go.Proofs.Ytimgfinlbhodhaa.Ab
open Go
set_option linter.unusedVariables false
set_option linter.unusedSimpArgs false
theorem mkStream_len3 (bs : List Int) {n : Int} (h0 : 0 ≤ n) : ((mkStream bs n).length : Int) ≤ n := by
  unfold mkStream tokS
  rw [toksN_len]
  have := bel_ok bs 0 (newH bs (min bs.length 4000)) (n := max 0 (min n 100) + 1) (by omega)
  omega
def inS (bs : List Int) (k : Nat) : List Int := mkStream (mkFresh bs (3 + (k : Int))) 10
def lessN (bs : List Int) (k : Nat) : Nat := (atO bs (5 + (k : Int))).toNat % ((inS bs k).length + 1)
def lessS (bs : List Int) (k : Nat) : List Int := (inS bs k).take (lessN bs k)
def inL (bs : List Int) (n : Nat) : List (List Int) := (List.range n).map (inS bs)
def lessL (bs : List Int) (n : Nat) : List (List Int) := (List.range n).map (lessS bs)
theorem inL_len (bs : List Int) (n : Nat) : (inL bs n).length = n := by simp [inL]
theorem lessL_len (bs : List Int) (n : Nat) : (lessL bs n).length = n := by simp [lessL]
theorem inL_snoc (bs : List Int) (n : Nat) : inL bs n ++ [inS bs n] = inL bs (n + 1) := by simp [inL, List.range_succ]
theorem lessL_snoc (bs : List Int) (n : Nat) : lessL bs n ++ [lessS bs n] = lessL bs (n + 1) := by simp [lessL, List.range_succ]
theorem inS_ok (bs : List Int) (k : Nat) : strOk (inS bs k) = true := mkStream_ok _ _
theorem inS_len (bs : List Int) (k : Nat) : (inS bs k).length ≤ 10 := by
  have := mkStream_len3 (mkFresh bs (3 + (k : Int))) (n := 10) (by omega)
  unfold inS
  omega
theorem inL_IW {bs : List Int} {i : Int} {n : Nat} (h : (n : Int) = i) : IW i (inL bs n) := ⟨by rw [inL_len]; exact h, fun r hr => by
  obtain ⟨k, _, rfl⟩ := List.mem_map.1 hr
  exact inS_ok bs k⟩
theorem lessL_IW {bs : List Int} {i : Int} {n : Nat} (h : (n : Int) = i) : IW i (lessL bs n) := ⟨by rw [lessL_len]; exact h, fun r hr => by
  obtain ⟨k, _, rfl⟩ := List.mem_map.1 hr
  exact strOk_pfx (List.take_prefix _ _) (inS_ok bs k)⟩
theorem lessL_le (bs : List Int) (n k : Nat) : (lessL bs n).getD k default <+: (inL bs n).getD k default := by
  unfold lessL inL
  by_cases hk : k < n
  · simp only [List.getD_eq_getElem?_getD, List.getElem?_map, List.getElem?_range hk]
    exact List.take_prefix _ _
  · simp only [List.getD_eq_getElem?_getD, List.getElem?_map]
    rw [List.getElem?_eq_none (by simpa using hk)]
    exact List.prefix_refl _
theorem inL_ten (bs : List Int) (n k : Nat) : ((inL bs n).getD k default).length ≤ 10 := by
  unfold inL
  by_cases hk : k < n
  · simp only [List.getD_eq_getElem?_getD, List.getElem?_map, List.getElem?_range hk]
    exact inS_len bs k
  · simp only [List.getD_eq_getElem?_getD, List.getElem?_map]
    rw [List.getElem?_eq_none (by simpa using hk)]
    exact Nat.zero_le _
section
variable {i o : Int} {l : List I4} {ins less : List (List Int)} {s : PS}
theorem stepW_tok {x : I4} {rs : List Int} (h : RegOk x rs) : tok (stepW x rs) = true := by
  unfold stepW
  split
  · have h0 := h.a0
    have h1 := h.a1
    have : rg rs x.2.1 ∈ rs := by unfold rg; exact getD_mem0 (by omega)
    exact tok_iff.2 (h.t _ this)
  · decide
theorem str_snoc {a : List Int} {v : Int} (h : strOk a = true) (hv : tok v = true) (hl : a.length < 400) : strOk (a ++ [v]) = true := by
  simp only [strOk, Bool.and_eq_true, decide_eq_true_eq, List.all_append, List.length_append, List.all_cons, List.all_nil, List.length_cons, List.length_nil] at h ⊢
  refine ⟨⟨h.1, hv, trivial⟩, by omega⟩
theorem next_str (hp : progOk i o l = true) (w : PW i o l ins s) (hs : stopP l ins s = false) (h : s.outs.all strOk = true) : (nextP l ins s).outs.all strOk = true := by
  obtain ⟨n0, n2, n3⟩ := stopP_false hs
  obtain ⟨hr, hx⟩ := w.reg hp n0
  rw [List.all_eq_true] at h ⊢
  intro r hr2
  simp only [nextP] at hr2
  split at hr2
  · rename_i hw
    obtain ⟨p0, p1⟩ := w.write hp hw
    have hol := w.ol
    rcases List.mem_or_eq_of_mem_set hr2 with e | e
    · exact h r e
    · rw [e]
      have hm : s.outs.getD (wP l s).2.toNat default ∈ s.outs := getD_mem0 (by omega)
      have := w.ob _ hm
      have := n3 hw
      exact str_snoc (h _ hm) (stepW_tok hr) (by omega)
  · exact h r hr2
theorem run_str (hp : progOk i o l = true) (hi : IW i ins) : ∀ (n : Nat) (s : PS), PW i o l ins s → s.outs.all strOk = true → (goP l ins n s).1.outs.all strOk = true
  | 0, s, _, h => by unfold goP; split <;> exact h
  | n + 1, s, w, h => by
    unfold goP
    split
    · exact h
    · rename_i hs
      have hs2 : stopP l ins s = false := by simpa using hs
      exact run_str hp hi n _ (w.next hp hi hs2) (next_str hp w hs2 h)
theorem ps0_str (i o : Int) : (ps0 i o).outs.all strOk = true := by
  rw [List.all_eq_true]
  intro r hr
  rw [(List.mem_replicate.1 hr).2]
  rfl
theorem run_less (hp : progOk i o l = true) (hi : IW i ins) (hl : ∀ k : Nat, less.getD k default <+: ins.getD k default) (n : Nat) : belowB (goP l less n (ps0 i o)).1.outs (goP l ins n (ps0 i o)).1.outs = true :=
  below_yes (goP_less n _ hl (ub_ps0 _ _ _)).1 (run_str hp hi n _ (PW.init hp hi) (ps0_str i o))
theorem run_yes {fuel : Int} (hp : progOk i o l = true) (hi : IW i ins) (h0 : 0 ≤ fuel) (h1 : fuel ≤ 3000) : runO i o l ins fuel = ((goP l ins fuel.toNat (ps0 i o)).1.outs, (goP l ins fuel.toNat (ps0 i o)).1.used, (goP l ins fuel.toNat (ps0 i o)).2.1, true) := by
  have hb : runBad i o l ins fuel = false := by
    have hil := hi.il
    have ha : ins.all strOk = true := List.all_eq_true.2 hi.it
    unfold runBad
    rw [hp, ha]
    simp [hil]
    omega
  unfold runO
  rw [if_neg (by rw [hb]; simp)]
theorem step_yes {pc : Int} {rs : List Int} {token : Int} (hp : progOk i o l = true) (ha : actOk pc l.length rs = true) (hw : ¬ (wantK l pc).1 = 0) (ht : (wantK l pc).1 = 2 → tok token = true) : stepO i o l pc rs token = ((stepPc (l.getD pc.toNat default) pc rs, stepRs (l.getD pc.toNat default) rs token), stepW (l.getD pc.toNat default) rs, true) := by
  have hb : stepBad i o l pc rs token = false := by
    unfold stepBad
    rw [hp, ha]
    have h1 : ((wantK l pc).1 == 0) = false := beq_eq_false_iff_ne.2 hw
    rw [h1]
    by_cases h2 : (wantK l pc).1 = 2
    · rw [ht h2]; simp
    · have : ((wantK l pc).1 == 2) = false := beq_eq_false_iff_ne.2 h2
      rw [this]; simp
  unfold stepO
  rw [if_neg (by rw [hb]; simp)]
theorem want_yes {pc : Int} {rs : List Int} (hp : progOk i o l = true) (ha : actOk pc l.length rs = true) : wantOf i o l pc rs = wantK l pc := by
  unfold wantOf
  rw [hp, ha, if_pos (by rfl)]
end
end Go.Proofs.Ytimgfinlbhodhaa.Ab
