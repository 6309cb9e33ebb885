/- Runs of a process: plain definitions and lemmas. -/
import Derived.Test.YticgaflgbljhlaaAbStp2
namespace Go.Proofs.Yticgaflgbljhlaa.Ab
open Go
set_option linter.unusedVariables false
set_option linter.unusedSimpArgs false

/-- A process at work: place, registers, what was written, how many tokens were read. -/
structure PS where
  pc : Int
  rs : List Int
  outs : List (List Int)
  used : List Int
def wP (l : List I4) (s : PS) : Int × Int := wantK l s.pc
def xP (l : List I4) (s : PS) : I4 := l.getD s.pc.toNat default
def stopP (l : List I4) (ins : List (List Int)) (s : PS) : Bool :=
  ((wP l s).1 == 0) || ((wP l s).1 == 2 && (s.used.getD (wP l s).2.toNat default == ((ins.getD (wP l s).2.toNat default).length : Int))) || ((wP l s).1 == 3 && (((s.outs.getD (wP l s).2.toNat default).length : Int) == 400))
def tokP (l : List I4) (ins : List (List Int)) (s : PS) : Int :=
  if (wP l s).1 = 2 then (ins.getD (wP l s).2.toNat default).getD (s.used.getD (wP l s).2.toNat default).toNat default else 0
def nextP (l : List I4) (ins : List (List Int)) (s : PS) : PS :=
  ⟨stepPc (xP l s) s.pc s.rs, stepRs (xP l s) s.rs (tokP l ins s),
   if (wP l s).1 = 3 then s.outs.set (wP l s).2.toNat (s.outs.getD (wP l s).2.toNat default ++ [stepW (xP l s) s.rs]) else s.outs,
   if (wP l s).1 = 2 then s.used.set (wP l s).2.toNat (s.used.getD (wP l s).2.toNat default + 1) else s.used⟩
/-- A run of so many steps at most: how it stands, why it ended, the port that it wants. -/
def goP (l : List I4) (ins : List (List Int)) : Nat → PS → PS × Int × Int
  | 0, s => if stopP l ins s = true then (s, wP l s) else (s, 1, 0)
  | n + 1, s => if stopP l ins s = true then (s, wP l s) else goP l ins n (nextP l ins s)
def ps0 (i o : Int) : PS := ⟨0, [0, 0, 0, 0], List.replicate o.toNat [], List.replicate i.toNat 0⟩
theorem goP_stop {l : List I4} {ins : List (List Int)} {n : Nat} {s : PS} (h : stopP l ins s = true) : goP l ins n s = (s, wP l s) := by
  cases n <;> simp [goP, h]
theorem goP_zero {l : List I4} {ins : List (List Int)} {s : PS} (h : stopP l ins s = false) : goP l ins 0 s = (s, 1, 0) := by simp [goP, h]
theorem goP_succ {l : List I4} {ins : List (List Int)} {n : Nat} {s : PS} (h : stopP l ins s = false) : goP l ins (n + 1) s = goP l ins n (nextP l ins s) := by simp [goP, h]

theorem strLen {xs : List Int} (h : strOk xs = true) : xs.length ≤ 400 := by
  simp only [strOk, Bool.and_eq_true, decide_eq_true_eq] at h
  omega
theorem stopP_two {l : List I4} {ins : List (List Int)} {s : PS} {p : Int} (h : (wantK l s.pc).1 = 2) (hp : (wantK l s.pc).2 = p) : stopP l ins s = (s.used.getD p.toNat default == ((ins.getD p.toNat default).length : Int)) := by
  unfold stopP wP
  rw [h, hp]
  generalize (s.used.getD p.toNat default == ((ins.getD p.toNat default).length : Int)) = b
  cases b <;> simp
theorem stopP_three {l : List I4} {ins : List (List Int)} {s : PS} {p : Int} (h : (wantK l s.pc).1 = 3) (hp : (wantK l s.pc).2 = p) : stopP l ins s = (((s.outs.getD p.toNat default).length : Int) == 400) := by
  unfold stopP wP
  rw [h, hp]
  generalize (((s.outs.getD p.toNat default).length : Int) == 400) = b
  cases b <;> simp
theorem goP_pred {l : List I4} {ins : List (List Int)} {n : Nat} {s : PS} {R : PS × Int × Int} (h : stopP l ins s = false) (hn : n ≠ 0) (hg : goP l ins n s = R) : goP l ins (n - 1) (nextP l ins s) = R := by
  cases n with
  | zero => exact absurd rfl hn
  | succ n => rw [goP_succ h] at hg; exact hg
/-- All is where it should be. -/
structure PW (i o : Int) (l : List I4) (ins : List (List Int)) (s : PS) : Prop where
  act : actOk s.pc l.length s.rs = true
  ol : (s.outs.length : Int) = o
  ob : ∀ r ∈ s.outs, r.length ≤ 400
  ul : (s.used.length : Int) = i
  ub : ∀ k, k < s.used.length → 0 ≤ s.used.getD k default ∧ s.used.getD k default ≤ ((ins.getD k default).length : Int)
structure IW (i : Int) (ins : List (List Int)) : Prop where
  il : (ins.length : Int) = i
  it : ∀ r ∈ ins, strOk r = true
theorem wantK_cases (l : List I4) (pc : Int) : (wantK l pc).1 = 0 ∨ (wantK l pc).1 = 1 ∨ (wantK l pc).1 = 2 ∨ (wantK l pc).1 = 3 := by
  unfold wantK
  repeat' split
  all_goals simp
theorem wantK_read {l : List I4} {pc : Int} (h : (wantK l pc).1 = 2) : (l.getD pc.toNat default).1 = 1 ∧ (wantK l pc).2 = (l.getD pc.toNat default).2.2.1 := by
  unfold wantK at h ⊢
  repeat' split at h
  all_goals simp_all
theorem wantK_write {l : List I4} {pc : Int} (h : (wantK l pc).1 = 3) : (l.getD pc.toNat default).1 = 2 ∧ (wantK l pc).2 = (l.getD pc.toNat default).2.2.1 := by
  unfold wantK at h ⊢
  repeat' split at h
  all_goals simp_all
theorem wantK_one {l : List I4} {pc : Int} (h : (wantK l pc).1 = 1) : ¬ (l.getD pc.toNat default).1 = 1 ∧ ¬ (l.getD pc.toNat default).1 = 2 ∧ (wantK l pc).2 = 0 := by
  unfold wantK at h ⊢
  repeat' split at h
  all_goals simp_all
theorem wantK_nohalt {l : List I4} {pc : Int} (h : ¬ (wantK l pc).1 = 0) : ¬ (l.getD pc.toNat default).1 = 11 := by
  intro e
  apply h
  unfold wantK
  split
  · rfl
  · rfl
section
variable {i o : Int} {l : List I4} {ins : List (List Int)} {s : PS}
theorem PW.pc0 (h : PW i o l ins s) : 0 ≤ s.pc ∧ s.pc ≤ (l.length : Int) := act_pc h.act
theorem PW.lt (h : PW i o l ins s) (hs : ¬ (wP l s).1 = 0) : s.pc < (l.length : Int) := wantK_lt h.pc0.2 hs
theorem PW.reg (hp : progOk i o l = true) (h : PW i o l ins s) (hs : ¬ (wP l s).1 = 0) : RegOk (xP l s) s.rs ∧ opsOk i o l.length (xP l s) = true := regOk_of hp h.act h.pc0.1 (h.lt hs)
theorem PW.read (hp : progOk i o l = true) (h : PW i o l ins s) (hw : (wP l s).1 = 2) : 0 ≤ (wP l s).2 ∧ (wP l s).2 < i := by
  obtain ⟨h1, h2⟩ := h.reg hp (by omega)
  obtain ⟨h3, h4⟩ := wantK_read hw
  unfold wP xP at *
  rw [h4]
  generalize l.getD s.pc.toNat default = x at h2 h3 ⊢
  unfold opsOk at h2
  rw [if_pos h3] at h2
  simp [inR] at h2
  omega
theorem PW.write (hp : progOk i o l = true) (h : PW i o l ins s) (hw : (wP l s).1 = 3) : 0 ≤ (wP l s).2 ∧ (wP l s).2 < o := by
  obtain ⟨h1, h2⟩ := h.reg hp (by omega)
  obtain ⟨h3, h4⟩ := wantK_write hw
  unfold wP xP at *
  rw [h4]
  generalize l.getD s.pc.toNat default = x at h2 h3 ⊢
  unfold opsOk at h2
  rw [if_neg (by omega), if_pos h3] at h2
  simp [inR] at h2
  omega
theorem stepPc_ok {x : I4} {n pc : Int} {rs : List Int} (hx : opsOk i o n x = true) (h0 : 0 ≤ pc) (h1 : pc < n) : 0 ≤ stepPc x pc rs ∧ stepPc x pc rs ≤ n := by
  unfold stepPc
  split
  · rename_i h
    have h8 : x.1 = 8 ∨ x.1 = 9 ∨ x.1 = 10 := by omega
    unfold opsOk at hx
    rw [if_neg (by omega), if_neg (by omega), if_neg (by omega), if_neg (by omega)] at hx
    split at hx
    · simp [inR] at hx; omega
    · rw [if_pos (by omega)] at hx
      simp [inR] at hx; omega
  · omega
theorem actOk_iff {pc n : Int} {rs : List Int} : actOk pc n rs = true ↔ (0 ≤ pc ∧ pc ≤ n) ∧ rs.length = 4 ∧ ∀ r ∈ rs, -999999 ≤ r ∧ r ≤ 999999 := by
  simp only [actOk, inR, strOk, Bool.and_eq_true, beq_iff_eq, decide_eq_true_eq, List.all_eq_true, tok_iff]
  constructor
  · rintro ⟨⟨h1, h2⟩, h3, h4⟩; exact ⟨⟨by omega, by omega⟩, by omega, h3⟩
  · rintro ⟨⟨h1, h2⟩, h3, h4⟩; exact ⟨⟨⟨by omega, by omega⟩, by omega⟩, h4, by omega⟩
theorem stepRs_ok {x : I4} {n pc : Int} {rs : List Int} {token : Int} (hr : RegOk x rs) (hx : opsOk i o n x = true) (h4 : rs.length = 4) (ht : x.1 = 1 → -999999 ≤ token ∧ token ≤ 999999) (h0 : 0 ≤ pc) (h1 : pc < n) :
    actOk (stepPc x pc rs) n (stepRs x rs token) = true := by
  rw [actOk_iff]
  refine ⟨stepPc_ok hx h0 h1, by rw [stepRs_len, h4], fun r hr2 => ?_⟩
  unfold stepRs at hr2
  rcases List.mem_or_eq_of_mem_set hr2 with h | h
  · exact hr.t r h
  · rw [h]; exact valR_tok hr hx ht
theorem tokP_ok (hi : IW i ins) (h : PW i o l ins s) (hp : progOk i o l = true) (hw : (wP l s).1 = 2) (hn : s.used.getD (wP l s).2.toNat default < ((ins.getD (wP l s).2.toNat default).length : Int)) : -999999 ≤ tokP l ins s ∧ tokP l ins s ≤ 999999 := by
  obtain ⟨p0, p1⟩ := h.read hp hw
  have hul := h.ul
  have hil := hi.il
  have hu := h.ub (wP l s).2.toNat (by omega)
  unfold tokP
  rw [if_pos hw]
  have hk : (wP l s).2.toNat < ins.length := by omega
  have hmem : ins.getD (wP l s).2.toNat default ∈ ins := by
    rw [List.getD_eq_getElem?_getD, List.getElem?_eq_getElem hk]; exact List.getElem_mem hk
  have hst := hi.it _ hmem
  simp only [strOk, Bool.and_eq_true, List.all_eq_true] at hst
  have hlt : (s.used.getD (wP l s).2.toNat default).toNat < (ins.getD (wP l s).2.toNat default).length := by omega
  refine tok_iff.1 (hst.1 _ ?_)
  rw [List.getD_eq_getElem?_getD (l := ins.getD (wP l s).2.toNat default), List.getElem?_eq_getElem hlt]
  exact List.getElem_mem hlt
theorem stopP_false (h : stopP l ins s = false) : ¬ (wP l s).1 = 0 ∧ ((wP l s).1 = 2 → s.used.getD (wP l s).2.toNat default ≠ ((ins.getD (wP l s).2.toNat default).length : Int)) ∧ ((wP l s).1 = 3 → (s.outs.getD (wP l s).2.toNat default).length ≠ 400) := by
  unfold stopP at h
  simp only [Bool.or_eq_false_iff, beq_eq_false_iff_ne, ne_eq, Bool.and_eq_false_imp, beq_iff_eq] at h
  exact ⟨h.1.1, h.1.2, fun hw e => h.2 hw (by rw [e]; rfl)⟩
theorem getD_mem {α : Type} [Inhabited α] {l : List α} {k : Nat} (h : k < l.length) : l.getD k default ∈ l := by
  rw [List.getD_eq_getElem?_getD, List.getElem?_eq_getElem h]; exact List.getElem_mem h
theorem PW.next (hp : progOk i o l = true) (hi : IW i ins) (h : PW i o l ins s) (hs : stopP l ins s = false) : PW i o l ins (nextP l ins s) := by
  obtain ⟨n0, n2, n3⟩ := stopP_false hs
  obtain ⟨hr, hx⟩ := h.reg hp n0
  have hul := h.ul
  have hil := hi.il
  have hol := h.ol
  have h4 : s.rs.length = 4 := (actOk_iff.1 h.act).2.1
  have htok : (xP l s).1 = 1 → -999999 ≤ tokP l ins s ∧ tokP l ins s ≤ 999999 := by
    intro hx1
    by_cases hw : (wP l s).1 = 2
    · obtain ⟨p0, p1⟩ := h.read hp hw
      have hu := h.ub (wP l s).2.toNat (by omega)
      have := n2 hw
      exact tokP_ok hi h hp hw (by omega)
    · unfold tokP; rw [if_neg hw]; omega
  refine ⟨?_, ?_, ?_, ?_, ?_⟩
  · exact stepRs_ok hr hx h4 htok h.pc0.1 (h.lt n0)
  · simp only [nextP]; split <;> simp [hol]
  · intro r hr2
    simp only [nextP] at hr2
    split at hr2
    · rename_i hw
      obtain ⟨p0, p1⟩ := h.write hp hw
      rcases List.mem_or_eq_of_mem_set hr2 with e | e
      · exact h.ob r e
      · rw [e]
        have := h.ob _ (getD_mem (l := s.outs) (k := (wP l s).2.toNat) (by omega))
        have := n3 hw
        simp only [List.length_append, List.length_cons, List.length_nil]
        omega
    · exact h.ob r hr2
  · simp only [nextP]; split <;> simp [hul]
  · intro k hk
    simp only [nextP] at hk ⊢
    split at hk
    · rename_i hw
      rw [if_pos hw]
      obtain ⟨p0, p1⟩ := h.read hp hw
      simp only [List.length_set] at hk
      have hu := h.ub k hk
      by_cases e : (wP l s).2.toNat = k
      · subst e
        have := n2 hw
        simp only [List.getD_eq_getElem?_getD, List.getElem?_set_self hk, Option.getD_some] at hu this ⊢
        omega
      · simp only [List.getD_eq_getElem?_getD, List.getElem?_set_ne e] at hu ⊢
        exact hu
    · rename_i hw
      rw [if_neg hw]
      exact h.ub k hk
theorem PW.init (hp : progOk i o l = true) (hi : IW i ins) : PW i o l ins (ps0 i o) := by
  have hpo := hp
  simp only [progOk, inR, Bool.and_eq_true, decide_eq_true_eq] at hpo
  obtain ⟨⟨⟨hi0, ho0⟩, hl0⟩, _⟩ := hpo
  refine ⟨?_, ?_, ?_, ?_, ?_⟩
  · rw [actOk_iff]; exact ⟨⟨by simp [ps0], by simp [ps0]⟩, rfl, by simp [ps0]⟩
  · simp [ps0]; omega
  · intro r hr; simp only [ps0] at hr; rw [(List.mem_replicate.1 hr).2]; simp
  · simp [ps0]; omega
  · intro k hk
    simp only [ps0, List.length_replicate] at hk
    simp [ps0, hk]
end
end Go.Proofs.Yticgaflgbljhlaa.Ab
