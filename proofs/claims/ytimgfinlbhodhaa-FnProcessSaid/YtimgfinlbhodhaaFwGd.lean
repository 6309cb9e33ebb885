/- Walks of functions of the program: what each answers, for all arguments that meet its conditions; and the plain definitions that tell it. -/
import Derived.Test.YtimgfinlbhodhaaFwGc
import Derived.Test.YtimgfinlbhodhaaFwB
import Derived.Test.YtimgfinlbhodhaaFwGa
import Derived.Test.YtimgfinlbhodhaaFwGb
namespace Go.Proofs.Ytimgfinlbhodhaa.Ab
open Go
set_option linter.unusedVariables false
set_option linter.unusedSimpArgs false
theorem tmod_cases (a n : Int) (hn : 0 < n) : (0 ≤ a ∧ a.tmod n = a % n) ∨ (a < 0 ∧ a.tmod n = -((-a) % n)) := by
  by_cases h : a < 0
  · refine .inr ⟨h, ?_⟩
    have h1 := Int.tmod_eq_emod_of_nonneg (b := n) (show 0 ≤ -a by omega)
    rw [Int.neg_tmod] at h1
    omega
  · exact .inl ⟨by omega, Int.tmod_eq_emod_of_nonneg (by omega)⟩
theorem tmod_lt (a n : Int) (hn : 0 < n) : -n < a.tmod n ∧ a.tmod n < n := by
  have h1 := Int.emod_lt_of_pos a hn
  have h2 := Int.emod_nonneg a (show n ≠ 0 by omega)
  have h3 := Int.emod_lt_of_pos (-a) hn
  have h4 := Int.emod_nonneg (-a) (show n ≠ 0 by omega)
  rcases tmod_cases a n hn with ⟨_, e⟩ | ⟨_, e⟩ <;> rw [e] <;> omega
def wrapT (n : Int) : Int := if n.tmod 1999999 > 999999 then n.tmod 1999999 - 1999999 else if n.tmod 1999999 < -999999 then n.tmod 1999999 + 1999999 else n.tmod 1999999
theorem wrapT_tok (n : Int) : -999999 ≤ wrapT n ∧ wrapT n ≤ 999999 := by
  have := tmod_lt n 1999999 (by omega)
  unfold wrapT
  split
  · omega
  · split <;> omega
theorem mul_tok {a b : Int} (ha : -999999 ≤ a ∧ a ≤ 999999) (hb : -999999 ≤ b ∧ b ≤ 999999) : -999998000001 ≤ a * b ∧ a * b ≤ 999998000001 := by
  have h1 := Int.mul_nonneg (show 0 ≤ 999999 - a by omega) (show 0 ≤ 999999 - b by omega)
  have h2 := Int.mul_nonneg (show 0 ≤ 999999 + a by omega) (show 0 ≤ 999999 + b by omega)
  have h3 := Int.mul_nonneg (show 0 ≤ 999999 - a by omega) (show 0 ≤ 999999 + b by omega)
  have h4 := Int.mul_nonneg (show 0 ≤ 999999 + a by omega) (show 0 ≤ 999999 - b by omega)
  simp only [Int.sub_mul, Int.mul_sub, Int.add_mul, Int.mul_add] at h1 h2 h3 h4
  omega
def restT (x c : Int) : Int := if c = 0 then 0 else if x.tmod (max c (-c)) < 0 then x.tmod (max c (-c)) + max c (-c) else x.tmod (max c (-c))
theorem restT_ok {x c : Int} (hc : -999999 ≤ c ∧ c ≤ 999999) : 0 ≤ restT x c ∧ restT x c ≤ 999999 := by
  unfold restT
  split
  · omega
  · have hm : 0 < max c (-c) := by omega
    have := tmod_lt x (max c (-c)) hm
    split <;> omega
def rg (rs : List Int) (k : Int) : Int := rs.getD k.toNat default
def valR (x : I4) (rs : List Int) (token : Int) : Int :=
  if x.1 = 1 then token else if x.1 = 3 then x.2.2.1 else if x.1 = 4 then wrapT (rg rs x.2.2.1 + rg rs x.2.2.2) else if x.1 = 5 then wrapT (rg rs x.2.2.1 - rg rs x.2.2.2)
  else if x.1 = 6 then wrapT (rg rs x.2.2.1 * rg rs x.2.2.2) else if x.1 = 7 then restT (rg rs x.2.2.1) (rg rs x.2.2.2) else rg rs x.2.1
def stepRs (x : I4) (rs : List Int) (token : Int) : List Int := rs.set x.2.1.toNat (valR x rs token)
def stepPc (x : I4) (pc : Int) (rs : List Int) : Int := if x.1 = 8 ∨ (x.1 = 9 ∧ rg rs x.2.1 = 0) ∨ (x.1 = 10 ∧ rg rs x.2.1 < 0) then x.2.2.1 else pc + 1
def stepW (x : I4) (rs : List Int) : Int := if x.1 = 2 then rg rs x.2.1 else 0
structure RegOk (x : I4) (rs : List Int) : Prop where
  a0 : 0 ≤ x.2.1
  a1 : x.2.1 < (rs.length : Int)
  b0 : x.1 = 4 ∨ x.1 = 5 ∨ x.1 = 6 ∨ x.1 = 7 → 0 ≤ x.2.2.1 ∧ x.2.2.1 < (rs.length : Int) ∧ 0 ≤ x.2.2.2 ∧ x.2.2.2 < (rs.length : Int)
  t : ∀ r ∈ rs, -999999 ≤ r ∧ r ≤ 999999
  b8 : rs.length ≤ 400
theorem RegOk.rg {x : I4} {rs : List Int} (h : RegOk x rs) {k : Int} (h0 : 0 ≤ k) (h1 : k < (rs.length : Int)) : -999999 ≤ rg rs k ∧ rg rs k ≤ 999999 := by
  have hk : k.toNat < rs.length := by omega
  unfold Ab.rg
  rw [List.getD_eq_getElem?_getD, List.getElem?_eq_getElem hk]
  exact h.t _ (List.getElem_mem hk)
theorem tok_iff {x : Int} : tok x = true ↔ -999999 ≤ x ∧ x ≤ 999999 := by simp [tok, inR]
theorem regOk_of {i o : Int} {l : List I4} {pc : Int} {rs : List Int} (hp : progOk i o l = true) (ha : actOk pc l.length rs = true) (h0 : 0 ≤ pc) (h1 : pc < (l.length : Int)) : RegOk (l.getD pc.toNat default) rs ∧ opsOk i o l.length (l.getD pc.toNat default) = true := by
  have hk : pc.toNat < l.length := by omega
  have hx : opsOk i o l.length (l.getD pc.toNat default) = true := by
    simp only [progOk, Bool.and_eq_true] at hp
    have := List.all_eq_true.1 hp.2 (l[pc.toNat]) (List.getElem_mem hk)
    simpa [hk] using this
  refine ⟨?_, hx⟩
  generalize l.getD pc.toNat default = x at hx ⊢
  simp only [actOk, strOk, Bool.and_eq_true, beq_iff_eq, decide_eq_true_eq, List.all_eq_true] at ha
  obtain ⟨⟨_, h4⟩, h5, h6⟩ := ha
  have hr : ∀ r ∈ rs, -999999 ≤ r ∧ r ≤ 999999 := fun r hr => tok_iff.1 (h5 r hr)
  have hA : 0 ≤ x.2.1 ∧ x.2.1 < 4 := by
    unfold opsOk at hx
    repeat' split at hx
    all_goals simp [inR] at hx
    all_goals omega
  refine ⟨hA.1, by omega, fun h => ?_, hr, by omega⟩
  have h1 : x.1 ≠ 1 := by omega
  have h2 : x.1 ≠ 2 := by omega
  have h3 : x.1 ≠ 3 := by omega
  unfold opsOk at hx
  rw [if_neg h1, if_neg h2, if_neg h3, if_pos h] at hx
  simp [inR] at hx
  omega
theorem valR_tok {i o n : Int} {x : I4} {rs : List Int} {token : Int} (h : RegOk x rs) (hx : opsOk i o n x = true) (ht : x.1 = 1 → -999999 ≤ token ∧ token ≤ 999999) : -999999 ≤ valR x rs token ∧ valR x rs token ≤ 999999 := by
  unfold valR
  split
  · rename_i h1; exact ht h1
  · split
    · rename_i h1 h3
      unfold opsOk at hx
      rw [if_neg (by omega), if_neg (by omega), if_pos h3] at hx
      simp [tok, inR] at hx
      omega
    · split
      · exact wrapT_tok _
      · split
        · exact wrapT_tok _
        · split
          · exact wrapT_tok _
          · split
            · rename_i h7
              obtain ⟨b1, b2, b3, b4⟩ := h.b0 (by omega)
              have := restT_ok (x := rg rs x.2.2.1) (h.rg b3 b4)
              omega
            · exact h.rg h.a0 h.a1
end Go.Proofs.Ytimgfinlbhodhaa.Ab

namespace Go.Proofs.Ytimgfinlbhodhaa.Ab
open Go
def stepBad (i o : Int) (l : List I4) (pc : Int) (rs : List Int) (token : Int) : Bool := !(progOk i o l && actOk pc l.length rs) || ((wantK l pc).1 == 0) || ((wantK l pc).1 == 2 && !(tok token))
def stepO (i o : Int) (l : List I4) (pc : Int) (rs : List Int) (token : Int) : (Int × List Int) × Int × Bool :=
  if stepBad i o l pc rs token = true then ((0, []), 0, false) else ((stepPc (l.getD pc.toNat default) pc rs, stepRs (l.getD pc.toNat default) rs token), stepW (l.getD pc.toNat default) rs, true)
theorem wantK_lt {l : List I4} {pc : Int} (h1 : pc ≤ (l.length : Int)) (h : ¬ (wantK l pc).1 = 0) : pc < (l.length : Int) := by
  rcases Int.lt_or_lt_of_ne (a := pc) (b := (l.length : Int)) (fun e => h (by unfold wantK; rw [if_pos e])) with h | h <;> omega
theorem stepRs_len (x : I4) (rs : List Int) (t : Int) : (stepRs x rs t).length = rs.length := by simp [stepRs]
theorem actOk_len {pc n : Int} {rs : List Int} (h : actOk pc n rs = true) : rs.length = 4 := by
  simp only [actOk, Bool.and_eq_true, beq_iff_eq] at h
  omega
theorem progOk_len {i o : Int} {l : List I4} (h : progOk i o l = true) : l.length ≤ 24 := by
  simp only [progOk, inR, Bool.and_eq_true, decide_eq_true_eq] at h
  omega
end Go.Proofs.Ytimgfinlbhodhaa.Ab

namespace Go.Proofs.Ytimgfinlbhodhaa.Ab
open Go
set_option linter.unusedVariables false
set_option linter.unusedSimpArgs false
set_option linter.unusedSectionVars false
theorem getD_mem0 {α : Type} [Inhabited α] {l : List α} {k : Nat} (h : k < l.length) : l.getD k default ∈ l := by
  rw [List.getD_eq_getElem?_getD, List.getElem?_eq_getElem h]
  exact List.getElem_mem h
def pgOk (p : PG) : Bool := progOk p.i p.o p.l
def endsOk (ps : List PG) (x : LK) : Bool :=
  !(x.fr == -1 && x.to == -1) && inR x.fr (-1) ((ps.length : Int) - 1) && inR x.to (-1) ((ps.length : Int) - 1) &&
  (inR x.ou 0 ((if x.fr ≥ 0 then (ps.getD x.fr.toNat default).o else 1) - 1) && inR x.ip 0 ((if x.to ≥ 0 then (ps.getD x.to.toNat default).i else 1) - 1))
def linkOk (ps : List PG) (x : LK) : Bool := endsOk ps x && strOk x.tk
def isTo (p q : Int) (x : LK) : Bool := x.to == p && x.ip == q
def isFr (p q : Int) (x : LK) : Bool := x.fr == p && x.ou == q
def onlyAt (q : LK → Bool) (ks : List LK) : Int := match ks.findIdx? q with
  | none => -1
  | some a => if (ks.drop (a + 1)).any q then -2 else (a : Int)
def insOk (ks : List LK) (i : Nat) (n : Int) : Bool := (List.range n.toNat).all fun k => decide (0 ≤ onlyAt (isTo i k) ks)
def outsOk (ks : List LK) (i : Nat) (n : Int) : Bool := (List.range n.toNat).all fun k => decide (0 ≤ onlyAt (isFr i k) ks)
def portsOk (ps : List PG) (ks : List LK) (i : Nat) : Bool := insOk ks i (ps.getD i default).i && outsOk ks i (ps.getD i default).o
def netSmall (ps : List PG) (ks : List LK) : Bool := decide ((ps.length : Int) ≤ 12) && decide ((ks.length : Int) ≤ 30)
def netOk (ps : List PG) (ks : List LK) : Bool := netSmall ps ks && ps.all pgOk && ks.all (linkOk ps) && (List.range ps.length).all (portsOk ps ks)
section only
variable {q : LK → Bool} {ks : List LK}
end only
section count
variable {α : Type} [DecidableEq α]
end count
theorem all_range {n : Nat} {p : Nat → Bool} : (List.range n).all p = true ↔ ∀ i < n, p i = true := by
  rw [List.all_eq_true]
  exact ⟨fun h i hi => h i (List.mem_range.2 hi), fun h i hi => h i (List.mem_range.1 hi)⟩
section is
variable {ps : List PG} {ks : List LK}
theorem range_no {n : Nat} {p : Nat → Bool} {i : Nat} (hi : i < n) (h : p i = false) : (List.range n).all p = false := by
  rw [List.all_eq_false]
  exact ⟨i, List.mem_range.2 hi, by rw [h]; simp⟩
theorem up_step {p : Nat → Prop} {i : Nat} (h : ∀ j < i, p j) (h2 : p i) : ∀ j < i + 1, p j := by
  intro j hj
  by_cases e : j = i
  · rw [e]; exact h2
  · exact h j (by omega)
end is
end Go.Proofs.Ytimgfinlbhodhaa.Ab

namespace Go.Proofs.Ytimgfinlbhodhaa.Ab
open Go
set_option linter.unusedVariables false
set_option linter.unusedSimpArgs false
section
variable {ps : List PG} {ks : List LK}
end
end Go.Proofs.Ytimgfinlbhodhaa.Ab

namespace Go.Proofs.Ytimgfinlbhodhaa.Ab
open Go
set_option linter.unusedVariables false
set_option linter.unusedSimpArgs false
section
variable {ps : List PG} {ks : List LK} {p q : Int}
structure NetW (ps : List PG) (ks : List LK) : Prop where
  pl : ps.length ≤ 12
  kl : ks.length ≤ 30
  pg : ps.all pgOk = true
  lk : ∀ k < ks.length, linkOk ps (ks.getD k default) = true
  to : ∀ i < ps.length, ∀ k : Nat, (k : Int) < (ps.getD i default).i → 0 ≤ onlyAt (isTo i k) ks
  fr : ∀ i < ps.length, ∀ k : Nat, (k : Int) < (ps.getD i default).o → 0 ≤ onlyAt (isFr i k) ks
end
end Go.Proofs.Ytimgfinlbhodhaa.Ab

namespace Go.Proofs.Ytimgfinlbhodhaa.Ab
open Go
set_option linter.unusedVariables false
set_option linter.unusedSimpArgs false
def begB (a b : List Int) : Bool := decide (a.length ≤ b.length) && decide (b.take a.length = a)
def pfxB (a b : List Int) : Bool := strOk a && strOk b && begB a b
def allPfx (p : List Int → List Int → Bool) (gs hs : List (List Int)) : Bool := (List.range gs.length).all fun k => p (gs.getD k default) (hs.getD k default)
section
variable {a b : List Int} {gs hs : List (List Int)} {ps : List PG} {ks : List LK}
theorem begB_long (h : ¬ a.length ≤ b.length) : begB a b = false := by unfold begB; rw [decide_eq_false h, Bool.false_and]
theorem begB_no {j : Nat} (hj : j < a.length) (h : ¬ b.getD j default = a.getD j default) : begB a b = false := by
  unfold begB
  rw [Bool.and_eq_false_iff]
  right
  rw [decide_eq_false_iff_not]
  intro e
  apply h
  rw [← e] at hj ⊢
  rw [List.length_take] at hj
  simp [List.getD_eq_getElem?_getD, List.getElem?_take]
  rw [if_pos (by omega)]
theorem begB_yes (hl : a.length ≤ b.length) (h : ∀ k < a.length, b.getD k default = a.getD k default) : begB a b = true := by
  unfold begB
  rw [decide_eq_true hl, Bool.true_and, decide_eq_true_eq]
  apply List.ext_getElem (by rw [List.length_take]; omega)
  intro j h1 h2
  have := h j h2
  have hb : j < b.length := by omega
  simpa [h2, hb] using this
theorem allPfx_no {p : List Int → List Int → Bool} {j : Nat} (hj : j < gs.length) (h : p (gs.getD j default) (hs.getD j default) = false) : allPfx p gs hs = false := range_no hj h
theorem allPfx_yes {p : List Int → List Int → Bool} (h : ∀ k < gs.length, p (gs.getD k default) (hs.getD k default) = true) : allPfx p gs hs = true := all_range.2 h
end
end Go.Proofs.Ytimgfinlbhodhaa.Ab

namespace Go.Proofs.Ytimgfinlbhodhaa.Ab
open Go
set_option linter.unusedVariables false
set_option linter.unusedSimpArgs false
set_option linter.unusedSectionVars false
section
variable {α : Type} [Inhabited α] {w : α → Nat} {m : Int → α → α}
variable [DecidableEq α]
end
end Go.Proofs.Ytimgfinlbhodhaa.Ab

namespace Go.Proofs.Ytimgfinlbhodhaa.Ab
open Go
set_option linter.unusedVariables false
set_option linter.unusedSimpArgs false
structure PS where
  pc : Int
  rs : List Int
  outs : List (List Int)
  used : List Int
def wP (l : List I4) (s : PS) : Int × Int := wantK l s.pc
def xP (l : List I4) (s : PS) : I4 := l.getD s.pc.toNat default
def stopP (l : List I4) (ins : List (List Int)) (s : PS) : Bool :=
  ((wP l s).1 == 0) || ((wP l s).1 == 2 && (s.used.getD (wP l s).2.toNat default == ((ins.getD (wP l s).2.toNat default).length : Int))) || ((wP l s).1 == 3 && (((s.outs.getD (wP l s).2.toNat default).length : Int) == 400))
def tokP (l : List I4) (ins : List (List Int)) (s : PS) : Int :=
  if (wP l s).1 = 2 then (ins.getD (wP l s).2.toNat default).getD (s.used.getD (wP l s).2.toNat default).toNat default else 0
def nextP (l : List I4) (ins : List (List Int)) (s : PS) : PS :=
  ⟨stepPc (xP l s) s.pc s.rs, stepRs (xP l s) s.rs (tokP l ins s),
   if (wP l s).1 = 3 then s.outs.set (wP l s).2.toNat (s.outs.getD (wP l s).2.toNat default ++ [stepW (xP l s) s.rs]) else s.outs,
   if (wP l s).1 = 2 then s.used.set (wP l s).2.toNat (s.used.getD (wP l s).2.toNat default + 1) else s.used⟩
def goP (l : List I4) (ins : List (List Int)) : Nat → PS → PS × Int × Int
  | 0, s => if stopP l ins s = true then (s, wP l s) else (s, 1, 0)
  | n + 1, s => if stopP l ins s = true then (s, wP l s) else goP l ins n (nextP l ins s)
def ps0 (i o : Int) : PS := ⟨0, [0, 0, 0, 0], List.replicate o.toNat [], List.replicate i.toNat 0⟩
theorem goP_stop {l : List I4} {ins : List (List Int)} {n : Nat} {s : PS} (h : stopP l ins s = true) : goP l ins n s = (s, wP l s) := by
  cases n <;> simp [goP, h]
theorem goP_zero {l : List I4} {ins : List (List Int)} {s : PS} (h : stopP l ins s = false) : goP l ins 0 s = (s, 1, 0) := by simp [goP, h]
theorem goP_succ {l : List I4} {ins : List (List Int)} {n : Nat} {s : PS} (h : stopP l ins s = false) : goP l ins (n + 1) s = goP l ins n (nextP l ins s) := by simp [goP, h]
theorem strLen {xs : List Int} (h : strOk xs = true) : xs.length ≤ 400 := by
  simp only [strOk, Bool.and_eq_true, decide_eq_true_eq] at h
  omega
theorem stopP_two {l : List I4} {ins : List (List Int)} {s : PS} {p : Int} (h : (wantK l s.pc).1 = 2) (hp : (wantK l s.pc).2 = p) : stopP l ins s = (s.used.getD p.toNat default == ((ins.getD p.toNat default).length : Int)) := by
  unfold stopP wP
  rw [h, hp]
  generalize (s.used.getD p.toNat default == ((ins.getD p.toNat default).length : Int)) = b
  cases b <;> simp
theorem stopP_three {l : List I4} {ins : List (List Int)} {s : PS} {p : Int} (h : (wantK l s.pc).1 = 3) (hp : (wantK l s.pc).2 = p) : stopP l ins s = (((s.outs.getD p.toNat default).length : Int) == 400) := by
  unfold stopP wP
  rw [h, hp]
  generalize (((s.outs.getD p.toNat default).length : Int) == 400) = b
  cases b <;> simp
theorem goP_pred {l : List I4} {ins : List (List Int)} {n : Nat} {s : PS} {R : PS × Int × Int} (h : stopP l ins s = false) (hn : n ≠ 0) (hg : goP l ins n s = R) : goP l ins (n - 1) (nextP l ins s) = R := by
  cases n with
  | zero => exact absurd rfl hn
  | succ n => rw [goP_succ h] at hg; exact hg
structure PW (i o : Int) (l : List I4) (ins : List (List Int)) (s : PS) : Prop where
  act : actOk s.pc l.length s.rs = true
  ol : (s.outs.length : Int) = o
  ob : ∀ r ∈ s.outs, r.length ≤ 400
  ul : (s.used.length : Int) = i
  ub : ∀ k, k < s.used.length → 0 ≤ s.used.getD k default ∧ s.used.getD k default ≤ ((ins.getD k default).length : Int)
structure IW (i : Int) (ins : List (List Int)) : Prop where
  il : (ins.length : Int) = i
  it : ∀ r ∈ ins, strOk r = true
theorem wantK_cases (l : List I4) (pc : Int) : (wantK l pc).1 = 0 ∨ (wantK l pc).1 = 1 ∨ (wantK l pc).1 = 2 ∨ (wantK l pc).1 = 3 := by
  unfold wantK
  repeat' split
  all_goals simp
theorem wantK_read {l : List I4} {pc : Int} (h : (wantK l pc).1 = 2) : (l.getD pc.toNat default).1 = 1 ∧ (wantK l pc).2 = (l.getD pc.toNat default).2.2.1 := by
  unfold wantK at h ⊢
  repeat' split at h
  all_goals simp_all
theorem wantK_write {l : List I4} {pc : Int} (h : (wantK l pc).1 = 3) : (l.getD pc.toNat default).1 = 2 ∧ (wantK l pc).2 = (l.getD pc.toNat default).2.2.1 := by
  unfold wantK at h ⊢
  repeat' split at h
  all_goals simp_all
theorem wantK_one {l : List I4} {pc : Int} (h : (wantK l pc).1 = 1) : ¬ (l.getD pc.toNat default).1 = 1 ∧ ¬ (l.getD pc.toNat default).1 = 2 ∧ (wantK l pc).2 = 0 := by
  unfold wantK at h ⊢
  repeat' split at h
  all_goals simp_all
section
variable {i o : Int} {l : List I4} {ins : List (List Int)} {s : PS}
theorem PW.pc0 (h : PW i o l ins s) : 0 ≤ s.pc ∧ s.pc ≤ (l.length : Int) := act_pc h.act
theorem PW.lt (h : PW i o l ins s) (hs : ¬ (wP l s).1 = 0) : s.pc < (l.length : Int) := wantK_lt h.pc0.2 hs
theorem PW.reg (hp : progOk i o l = true) (h : PW i o l ins s) (hs : ¬ (wP l s).1 = 0) : RegOk (xP l s) s.rs ∧ opsOk i o l.length (xP l s) = true := regOk_of hp h.act h.pc0.1 (h.lt hs)
theorem PW.read (hp : progOk i o l = true) (h : PW i o l ins s) (hw : (wP l s).1 = 2) : 0 ≤ (wP l s).2 ∧ (wP l s).2 < i := by
  obtain ⟨h1, h2⟩ := h.reg hp (by omega)
  obtain ⟨h3, h4⟩ := wantK_read hw
  unfold wP xP at *
  rw [h4]
  generalize l.getD s.pc.toNat default = x at h2 h3 ⊢
  unfold opsOk at h2
  rw [if_pos h3] at h2
  simp [inR] at h2
  omega
theorem PW.write (hp : progOk i o l = true) (h : PW i o l ins s) (hw : (wP l s).1 = 3) : 0 ≤ (wP l s).2 ∧ (wP l s).2 < o := by
  obtain ⟨h1, h2⟩ := h.reg hp (by omega)
  obtain ⟨h3, h4⟩ := wantK_write hw
  unfold wP xP at *
  rw [h4]
  generalize l.getD s.pc.toNat default = x at h2 h3 ⊢
  unfold opsOk at h2
  rw [if_neg (by omega), if_pos h3] at h2
  simp [inR] at h2
  omega
theorem stepPc_ok {x : I4} {n pc : Int} {rs : List Int} (hx : opsOk i o n x = true) (h0 : 0 ≤ pc) (h1 : pc < n) : 0 ≤ stepPc x pc rs ∧ stepPc x pc rs ≤ n := by
  unfold stepPc
  split
  · rename_i h
    have h8 : x.1 = 8 ∨ x.1 = 9 ∨ x.1 = 10 := by omega
    unfold opsOk at hx
    rw [if_neg (by omega), if_neg (by omega), if_neg (by omega), if_neg (by omega)] at hx
    split at hx
    · simp [inR] at hx; omega
    · rw [if_pos (by omega)] at hx
      simp [inR] at hx; omega
  · omega
theorem actOk_iff {pc n : Int} {rs : List Int} : actOk pc n rs = true ↔ (0 ≤ pc ∧ pc ≤ n) ∧ rs.length = 4 ∧ ∀ r ∈ rs, -999999 ≤ r ∧ r ≤ 999999 := by
  simp only [actOk, inR, strOk, Bool.and_eq_true, beq_iff_eq, decide_eq_true_eq, List.all_eq_true, tok_iff]
  constructor
  · rintro ⟨⟨h1, h2⟩, h3, h4⟩; exact ⟨⟨by omega, by omega⟩, by omega, h3⟩
  · rintro ⟨⟨h1, h2⟩, h3, h4⟩; exact ⟨⟨⟨by omega, by omega⟩, by omega⟩, h4, by omega⟩
theorem stepRs_ok {x : I4} {n pc : Int} {rs : List Int} {token : Int} (hr : RegOk x rs) (hx : opsOk i o n x = true) (h4 : rs.length = 4) (ht : x.1 = 1 → -999999 ≤ token ∧ token ≤ 999999) (h0 : 0 ≤ pc) (h1 : pc < n) :
    actOk (stepPc x pc rs) n (stepRs x rs token) = true := by
  rw [actOk_iff]
  refine ⟨stepPc_ok hx h0 h1, by rw [stepRs_len, h4], fun r hr2 => ?_⟩
  unfold stepRs at hr2
  rcases List.mem_or_eq_of_mem_set hr2 with h | h
  · exact hr.t r h
  · rw [h]; exact valR_tok hr hx ht
theorem tokP_ok (hi : IW i ins) (h : PW i o l ins s) (hp : progOk i o l = true) (hw : (wP l s).1 = 2) (hn : s.used.getD (wP l s).2.toNat default < ((ins.getD (wP l s).2.toNat default).length : Int)) : -999999 ≤ tokP l ins s ∧ tokP l ins s ≤ 999999 := by
  obtain ⟨p0, p1⟩ := h.read hp hw
  have hul := h.ul
  have hil := hi.il
  have hu := h.ub (wP l s).2.toNat (by omega)
  unfold tokP
  rw [if_pos hw]
  have hk : (wP l s).2.toNat < ins.length := by omega
  have hmem : ins.getD (wP l s).2.toNat default ∈ ins := by
    rw [List.getD_eq_getElem?_getD, List.getElem?_eq_getElem hk]; exact List.getElem_mem hk
  have hst := hi.it _ hmem
  simp only [strOk, Bool.and_eq_true, List.all_eq_true] at hst
  have hlt : (s.used.getD (wP l s).2.toNat default).toNat < (ins.getD (wP l s).2.toNat default).length := by omega
  refine tok_iff.1 (hst.1 _ ?_)
  rw [List.getD_eq_getElem?_getD (l := ins.getD (wP l s).2.toNat default), List.getElem?_eq_getElem hlt]
  exact List.getElem_mem hlt
theorem stopP_false (h : stopP l ins s = false) : ¬ (wP l s).1 = 0 ∧ ((wP l s).1 = 2 → s.used.getD (wP l s).2.toNat default ≠ ((ins.getD (wP l s).2.toNat default).length : Int)) ∧ ((wP l s).1 = 3 → (s.outs.getD (wP l s).2.toNat default).length ≠ 400) := by
  unfold stopP at h
  simp only [Bool.or_eq_false_iff, beq_eq_false_iff_ne, ne_eq, Bool.and_eq_false_imp, beq_iff_eq] at h
  exact ⟨h.1.1, h.1.2, fun hw e => h.2 hw (by rw [e]; rfl)⟩
theorem getD_mem {α : Type} [Inhabited α] {l : List α} {k : Nat} (h : k < l.length) : l.getD k default ∈ l := by
  rw [List.getD_eq_getElem?_getD, List.getElem?_eq_getElem h]; exact List.getElem_mem h
theorem PW.next (hp : progOk i o l = true) (hi : IW i ins) (h : PW i o l ins s) (hs : stopP l ins s = false) : PW i o l ins (nextP l ins s) := by
  obtain ⟨n0, n2, n3⟩ := stopP_false hs
  obtain ⟨hr, hx⟩ := h.reg hp n0
  have hul := h.ul
  have hil := hi.il
  have hol := h.ol
  have h4 : s.rs.length = 4 := (actOk_iff.1 h.act).2.1
  have htok : (xP l s).1 = 1 → -999999 ≤ tokP l ins s ∧ tokP l ins s ≤ 999999 := by
    intro hx1
    by_cases hw : (wP l s).1 = 2
    · obtain ⟨p0, p1⟩ := h.read hp hw
      have hu := h.ub (wP l s).2.toNat (by omega)
      have := n2 hw
      exact tokP_ok hi h hp hw (by omega)
    · unfold tokP; rw [if_neg hw]; omega
  refine ⟨?_, ?_, ?_, ?_, ?_⟩
  · exact stepRs_ok hr hx h4 htok h.pc0.1 (h.lt n0)
  · simp only [nextP]; split <;> simp [hol]
  · intro r hr2
    simp only [nextP] at hr2
    split at hr2
    · rename_i hw
      obtain ⟨p0, p1⟩ := h.write hp hw
      rcases List.mem_or_eq_of_mem_set hr2 with e | e
      · exact h.ob r e
      · rw [e]
        have := h.ob _ (getD_mem (l := s.outs) (k := (wP l s).2.toNat) (by omega))
        have := n3 hw
        simp only [List.length_append, List.length_cons, List.length_nil]
        omega
    · exact h.ob r hr2
  · simp only [nextP]; split <;> simp [hul]
  · intro k hk
    simp only [nextP] at hk ⊢
    split at hk
    · rename_i hw
      rw [if_pos hw]
      obtain ⟨p0, p1⟩ := h.read hp hw
      simp only [List.length_set] at hk
      have hu := h.ub k hk
      by_cases e : (wP l s).2.toNat = k
      · subst e
        have := n2 hw
        simp only [List.getD_eq_getElem?_getD, List.getElem?_set_self hk, Option.getD_some] at hu this ⊢
        omega
      · simp only [List.getD_eq_getElem?_getD, List.getElem?_set_ne e] at hu ⊢
        exact hu
    · rename_i hw
      rw [if_neg hw]
      exact h.ub k hk
theorem PW.init (hp : progOk i o l = true) (hi : IW i ins) : PW i o l ins (ps0 i o) := by
  have hpo := hp
  simp only [progOk, inR, Bool.and_eq_true, decide_eq_true_eq] at hpo
  obtain ⟨⟨⟨hi0, ho0⟩, hl0⟩, _⟩ := hpo
  refine ⟨?_, ?_, ?_, ?_, ?_⟩
  · rw [actOk_iff]; exact ⟨⟨by simp [ps0], by simp [ps0]⟩, rfl, by simp [ps0]⟩
  · simp [ps0]; omega
  · intro r hr; simp only [ps0] at hr; rw [(List.mem_replicate.1 hr).2]; simp
  · simp [ps0]; omega
  · intro k hk
    simp only [ps0, List.length_replicate] at hk
    simp [ps0, hk]
end
end Go.Proofs.Ytimgfinlbhodhaa.Ab

namespace Go.Proofs.Ytimgfinlbhodhaa.Ab
open Go
set_option linter.unusedVariables false
set_option linter.unusedSimpArgs false
def ovL (x : List Int) : List A := [.row true 1 (x.map iv)]
theorem pureLL_ovL (l : List (List Int)) : pureLL (l.map ovL) = true := pureLL_all (fun x => by simp [ovL, pureL, pureA, pureLL_iv]) l
theorem roLL_ovL (l : List (List Int)) : roLL (l.map ovL) = l.map ivL := by
  rw [roLL_map, List.map_map]
  exact List.map_congr_left fun x _ => by simp [ovL, ivL, roL, ro, roLL_iv]
theorem noLoanLL_ovL (l : List (List Int)) : noLoanLL (l.map ovL) = true := noLoanLL_all (fun x => by simp [ovL, noLoanL, noLoan, noLoanLL_iv]) l
def nilsL (n : Nat) : List (List Int) := List.replicate n []
section
variable {c : Cx} {k : List It} {st st' : St}
theorem G.focusO (m q : Nat) {outs : List (List Int)} (hm : st.heap[m]? = some (some (1, outs.map ovL))) (hq : q < outs.length)
    (h : G c k (withH st ((st.heap.set m (some (1, (outs.map ovL).set q [.sl st.heap.length 0 (outs.getD q default).length]))) ++ [some (1, (outs.getD q default).map iv)]))) : G c k st := by
  refine G.focus m q 0 (e := ovL (outs.getD q default)) (sz' := 1) (es' := (outs.getD q default).map iv) hm (by simp [hq]) rfl ?_
  simpa [ovL] using h
theorem G.unfocusO (m q n : Nat) {outs : List (List Int)} {r : List Int} {len : Nat} (hm : st.heap[m]? = some (some (1, (outs.map ovL).set q [.sl n 0 len]))) (hn : st.heap[n]? = some (some (1, r.map iv))) (hne : m ≠ n) (hl : len = r.length) (hq : q < outs.length)
    (h : G c k (withH st ((st.heap.set n none).set m (some (1, (outs.set q r).map ovL))))) : G c k st := by
  subst hl
  refine G.unfocus m q 0 n (e := [.sl n 0 r.length]) hm (by simp [hq]) rfl hn hne (by simp) (pureLL_iv r) ?_
  have e1 : (((r.map iv).drop 0).take r.length) = r.map iv := by rw [List.drop_zero]; exact List.take_of_length_le (by simp)
  rw [e1]
  have e2 : ((outs.map ovL).set q [A.sl n 0 r.length]).set q ([A.sl n 0 r.length].set 0 (.row true 1 (r.map iv))) = (outs.set q r).map ovL := by
    rw [List.set_set, List.map_set]; rfl
  rw [e2]
  exact h
theorem nils_rel {w : World} {S : Nat → Prop} {φ : List (Option Loc)} : ∀ (n : Nat) {vs : List Value} {f : List Nat}, RelL w S φ (List.replicate n [A.nils]).flatten vs f → RelL w S φ ((nilsL n).map ovL).flatten vs f
  | 0, _, _, h => by simpa [nilsL] using h
  | n + 1, _, _, h => by
    rw [List.replicate_succ, List.flatten_cons] at h
    have e : (nilsL (n + 1)).map ovL = [.row true 1 []] :: (nilsL n).map ovL := by simp [nilsL, List.replicate_succ, ovL]
    rw [e, List.flatten_cons]
    obtain ⟨u1, u2, g1, g2, rfl, rfl, r1, r2⟩ := h.split
    refine RelL.append ?_ (nils_rel n r2)
    cases r1 with
    | cons h1 h2 => cases h2; cases h1; exact .cons (.own0 _ _) .nil
theorem G.nilBlk (m n : Nat) (hm : st.heap[m]? = some (some (1, List.replicate n [A.nils]))) (h : G c k (withH st (st.heap.set m (some (1, (nilsL n).map ovL))))) : G c k st := by
  intro a w φ fs hr hb
  obtain ⟨lo, f1, fb, f2, q1, q2, q3, q4⟩ := hr.heap.at_ hm
  have hblk : BRel w (Sof c.S0 fs) φ (some (1, (nilsL n).map ovL)) lo fb := by
    cases lo with
    | none => exact q2.elim
    | some l =>
      obtain ⟨hz, q2⟩ := q2
      rcases q2 with q2 | ⟨arr, ty, vs, f0, rfl, r1, r2, r3, r4, r5, r6⟩
      · refine ⟨hz, .inl ⟨q2.1, ?_, q2.2.2⟩⟩
        have : n = 0 := by
          cases n with
          | zero => rfl
          | succ n => have := q2.2.1; rw [List.replicate_succ] at this; cases this
        subst this
        rfl
      · refine ⟨hz, .inr ⟨arr, ty, vs, f0, rfl, r1, r2, fun e he => ?_, nils_rel n r4, r5, by simpa [nilsL] using r6⟩⟩
        obtain ⟨x, _, rfl⟩ := List.mem_map.1 he
        rfl
  have hH := q4 w (Sof c.S0 fs) (fun _ => False) φ _ fb (Fr.refl _ w) (fun b hb => .inl hb) (fun _ h => h.elim) (Ext.refl φ) (fun _ _ h => h) (fun _ _ h => h) hblk
  rw [← q3] at hH
  exact h a w φ fs ⟨hr.defers, hr.size, hr.env, hH, hr.nodup, hr.apart, hr.low⟩ hb
end
end Go.Proofs.Ytimgfinlbhodhaa.Ab

namespace Go.Proofs.Ytimgfinlbhodhaa.Ab
open Go
def LW (ins : List (List Int)) : Prop := ∀ r ∈ ins, r.length < 17592186044416
def runBad (i o : Int) (l : List I4) (ins : List (List Int)) (fuel : Int) : Bool := !(progOk i o l) || (ins.length : Int) != i || decide (fuel < 0) || decide (fuel > 3000) || !(ins.all strOk)
def runO (i o : Int) (l : List I4) (ins : List (List Int)) (fuel : Int) : List (List Int) × List Int × Int × Bool :=
  if runBad i o l ins fuel = true then ([], [], 0, false) else ((goP l ins fuel.toNat (ps0 i o)).1.outs, (goP l ins fuel.toNat (ps0 i o)).1.used, (goP l ins fuel.toNat (ps0 i o)).2.1, true)
theorem runBad_false {i o : Int} {l : List I4} {ins : List (List Int)} {fuel : Int} (h : runBad i o l ins fuel = false) : progOk i o l = true ∧ IW i ins ∧ 0 ≤ fuel ∧ fuel ≤ 3000 ∧ ins.all strOk = true := by
  simp only [runBad, Bool.or_eq_false_iff, Bool.not_eq_false', bne_eq_false_iff_eq, decide_eq_false_iff_not] at h
  obtain ⟨⟨⟨⟨h1, h2⟩, h3⟩, h4⟩, h5⟩ := h
  exact ⟨h1, ⟨h2, fun r hr => List.all_eq_true.1 h5 r hr⟩, by omega, by omega, h5⟩
end Go.Proofs.Ytimgfinlbhodhaa.Ab

namespace Go.Proofs.Ytimgfinlbhodhaa.Ab
open Go
set_option linter.unusedVariables false
set_option linter.unusedSimpArgs false
section
variable {c : Cx} {k : List It} {st st' : St}
end
end Go.Proofs.Ytimgfinlbhodhaa.Ab

namespace Go.Proofs.Ytimgfinlbhodhaa.Ab
open Go
set_option linter.unusedVariables false
set_option linter.unusedSimpArgs false
end Go.Proofs.Ytimgfinlbhodhaa.Ab

namespace Go.Proofs.Ytimgfinlbhodhaa.Ab
open Go
set_option linter.unusedVariables false
set_option linter.unusedSimpArgs false
def endB (a b : List Int) : Bool := decide (a.length ≤ b.length) && decide (b.drop (b.length - a.length) = a)
def linkSt (x : LK) (q h : List Int) : Bool := strOk q && strOk h && begB x.tk h && endB q h && !((x.fr == -1 && !((h.length : Int) == (x.tk.length : Int))) || (x.to == -1 && !((h.length : Int) == (q.length : Int))))
section
variable {ps : List PG} {ks : List LK} {xs : List AT} {qs hs : List (List Int)} {t : Int}
structure StW (ps : List PG) (ks : List LK) (xs : List AT) (qs hs : List (List Int)) (t : Int) : Prop where
  net : netOk ps ks = true
  xl : xs.length = ps.length
  ql : qs.length = ks.length
  hl : hs.length = ks.length
  t0 : 0 ≤ t
  t1 : t ≤ 20000
  act : ∀ k < ps.length, actOk (xs.getD k default).pc (ps.getD k default).l.length (xs.getD k default).rs = true
  lnk : ∀ k < ks.length, linkSt (ks.getD k default) (qs.getD k default) (hs.getD k default) = true
end
section
variable {a b : List Int}
end
section
variable {x : LK} {q h : List Int}
end
end Go.Proofs.Ytimgfinlbhodhaa.Ab

namespace Go.Proofs.Ytimgfinlbhodhaa.Ab
open Go
set_option linter.unusedVariables false
set_option linter.unusedSimpArgs false
end Go.Proofs.Ytimgfinlbhodhaa.Ab

namespace Go.Proofs.Ytimgfinlbhodhaa.Ab
open Go
def regs0 (i o : Int) (l : List I4) : List Int := if progOk i o l = true then [0, 0, 0, 0] else []
end Go.Proofs.Ytimgfinlbhodhaa.Ab

namespace Go.Proofs.Ytimgfinlbhodhaa.Ab
open Go
set_option linter.unusedVariables false
set_option linter.unusedSimpArgs false
structure ST where
  xs : List AT
  qs : List (List Int)
  hs : List (List Int)
  t : Int
  deriving Inhabited, DecidableEq
def tkL (ks : List LK) : List (List Int) := ks.map LK.tk
theorem tkL_len (ks : List LK) : (tkL ks).length = ks.length := by simp [tkL]
end Go.Proofs.Ytimgfinlbhodhaa.Ab

namespace Go.Proofs.Ytimgfinlbhodhaa.Ab
open Go
set_option linter.unusedVariables false
set_option linter.unusedSimpArgs false
def insAt (ks : List LK) (hs : List (List Int)) (p : Nat) (q : Nat) : List Int := hs.getD (onlyAt (isTo p q) ks).toNat default
def insN (ks : List LK) (hs : List (List Int)) (p n : Nat) : List (List Int) := (List.range n).map (insAt ks hs p)
def insK (ps : List PG) (ks : List LK) (hs : List (List Int)) (p : Nat) : List (List Int) := insN ks hs p (ps.getD p default).i.toNat
def runK (ps : List PG) (ks : List LK) (hs : List (List Int)) (p : Nat) : PS × Int × Int := goP (ps.getD p default).l (insK ps ks hs p) (Int.toNat 3000) (ps0 (ps.getD p default).i (ps.getD p default).o)
def badR (r : PS × Int × Int) : Bool := r.2.1 == 1 || r.2.1 == 3
def outK (ps : List PG) (ks : List LK) (hs : List (List Int)) (p : Nat) : List (List Int) := (runK ps ks hs p).1.outs
def nxtL (ps : List PG) (ks : List LK) (hs : List (List Int)) (x : LK) : List Int := if x.fr ≥ 0 then x.tk ++ (outK ps ks hs x.fr.toNat).getD x.ou.toNat default else x.tk
def runsOk (ps : List PG) (ks : List LK) (hs : List (List Int)) : Bool := (List.range ps.length).all fun k => !(badR (runK ps ks hs k))
def nxts (ps : List PG) (ks : List LK) (hs : List (List Int)) : List (List Int) := ks.map (nxtL ps ks hs)
def rndOk (ps : List PG) (ks : List LK) (hs : List (List Int)) : Bool := runsOk ps ks hs && (nxts ps ks hs).all strOk
section
variable {ps : List PG} {ks : List LK} {hs : List (List Int)} {p : Nat}
theorem nxts_len : (nxts ps ks hs).length = ks.length := by simp [nxts]
theorem nxts_get {j : Nat} (h : j < ks.length) : (nxts ps ks hs).getD j default = nxtL ps ks hs (ks.getD j default) := by simp [nxts, List.getD_eq_getElem?_getD, h]
theorem run_PW {i o : Int} {l : List I4} {ins : List (List Int)} (hp : progOk i o l = true) (hi : IW i ins) : ∀ (n : Nat) (s : PS), PW i o l ins s → PW i o l ins (goP l ins n s).1
  | 0, s, h => by unfold goP; split <;> exact h
  | n + 1, s, h => by
    unfold goP
    split
    · exact h
    · rename_i hs
      exact run_PW hp hi n _ (h.next hp hi (by simpa using hs))
theorem getD_some {α : Type} [Inhabited α] {l : List α} {k : Nat} (h : k < l.length) : l[k]? = some (l.getD k default) := by
  rw [List.getD_eq_getElem?_getD, List.getElem?_eq_getElem h]; rfl
theorem up_eq {α : Type} [Inhabited α] {l m : List α} {i : Nat} (h : ∀ j < i, l.getD j default = m.getD j default) (h2 : l.getD i default = m.getD i default) : ∀ j < i + 1, l.getD j default = m.getD j default := geq_upto h h2
theorem beg_same {a b : List Int} (hl : (a.length : Int) = (b.length : Int)) : begB a b = decide (a = b) := by
  unfold begB
  rw [decide_eq_true (by omega), Bool.true_and, List.take_of_length_le (by omega), Bool.eq_iff_iff, decide_eq_true_eq, decide_eq_true_eq]
  exact eq_comm
theorem same_yes {a b : List Int} (h : (if ¬ (a.length : Int) = (b.length : Int) then true else !(begB a b)) = false) : a = b := by
  by_cases e : (a.length : Int) = (b.length : Int)
  · rw [if_neg (by simpa using e), beg_same e] at h
    simpa using h
  · rw [if_pos e] at h; cases h
theorem same_no {a b : List Int} (h : (if ¬ (a.length : Int) = (b.length : Int) then true else !(begB a b)) = true) : a ≠ b := by
  intro e
  subst e
  rw [if_neg (by simp), beg_same rfl] at h
  simp at h
end
theorem roLL_ivL (l : List (List Int)) : roLL (l.map ivL) = l.map ivL := by
  rw [roLL_map, List.map_map]
  exact List.map_congr_left fun x _ => by simp [ivL, roL, ro, roLL_iv]
section
variable {c : Cx} {k : List It} {st st' : St}
end
end Go.Proofs.Ytimgfinlbhodhaa.Ab

namespace Go.Proofs.Ytimgfinlbhodhaa.Ab
open Go
set_option linter.unusedVariables false
set_option linter.unusedSimpArgs false
section
variable {c : Cx} {k : List It} {st st' : St}
end
end Go.Proofs.Ytimgfinlbhodhaa.Ab

namespace Go.Proofs.Ytimgfinlbhodhaa.Ab
open Go
set_option linter.unusedVariables false
set_option linter.unusedSimpArgs false
end Go.Proofs.Ytimgfinlbhodhaa.Ab
