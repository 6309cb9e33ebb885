/- Chains of small programs: plain law. -/
import Derived.Test.YtimgfinlbhodhaaAbRuns
import Derived.Test.YtimgfinlbhodhaaAbMono2
import Derived.Test.YtimgfinlbhodhaaAbP11
namespace Go.Proofs.Ytimgfinlbhodhaa.Ab
open Go
set_option linter.unusedVariables false
set_option linter.unusedSimpArgs false
section
variable {l : List I4} {ins : List (List Int)} {n : Nat} {pc : Int} {a b c : Int} {rs : List Int} {outs : List (List Int)} {used : List Int}
theorem go_sub (hx : l.getD pc.toNat default = (5, a, b, c)) (hp : pc ≠ (l.length : Int)) :
    goP l ins (n + 1) ⟨pc, rs, outs, used⟩ = goP l ins n ⟨pc + 1, rs.set a.toNat (wrapT (rs.getD b.toNat default - rs.getD c.toNat default)), outs, used⟩ := by
  rw [go_other hx hp (by omega) (by omega) (by omega)]
  simp only [stepPc, stepRs, valR, rg, if_true, if_false, Int.reduceEq, false_and, or_self]
theorem go_set (hx : l.getD pc.toNat default = (3, a, b, c)) (hp : pc ≠ (l.length : Int)) :
    goP l ins (n + 1) ⟨pc, rs, outs, used⟩ = goP l ins n ⟨pc + 1, rs.set a.toNat b, outs, used⟩ := by
  rw [go_other hx hp (by omega) (by omega) (by omega)]
  simp only [stepPc, stepRs, valR, rg, if_true, if_false, Int.reduceEq, false_and, or_self]
end
def thrL : List I4 := [(1, 0, 0, 0), (2, 0, 0, 0), (8, 0, 0, 0)]
def sumPL : List I4 := [(1, 1, 0, 0), (4, 0, 0, 1), (2, 0, 0, 0), (8, 0, 0, 0)]
def stpPL : List I4 := [(1, 1, 0, 0), (5, 2, 1, 0), (2, 2, 0, 0), (3, 3, 0, 0), (4, 0, 1, 3), (8, 0, 0, 0)]
def twcL : List I4 := [(1, 0, 0, 0), (2, 0, 0, 0), (2, 0, 0, 0), (8, 0, 0, 0)]
section
variable {x : List Int} {n k : Nat} {r r0 r1 r2 r3 : Int} {o1 : List Int}
theorem thr_round (hk : k < x.length) (h1 : o1.length < 400) :
    goP thrL [x] (n + 3) ⟨0, [r, 0, 0, 0], [o1], [(k : Int)]⟩ = goP thrL [x] n ⟨0, [x.getD k default, 0, 0, 0], [o1 ++ [x.getD k default]], [((k + 1 : Nat) : Int)]⟩ := by
  rw [show n + 3 = n + 2 + 1 from rfl, go_read (a := 0) (b := 0) (c := 0) rfl (by decide) (by show (k : Int) ≠ (x.length : Int); omega)]
  show goP thrL [x] (n + 1 + 1) ⟨1, [x.getD k default, 0, 0, 0], [o1], [(k : Int) + 1]⟩ = _
  rw [go_write (a := 0) (b := 0) (c := 0) rfl (by decide) (by show o1.length < 400; exact h1) (by show 0 < 4; omega)]
  show goP thrL [x] (n + 1) ⟨2, [x.getD k default, 0, 0, 0], [o1 ++ [x.getD k default]], [(k : Int) + 1]⟩ = _
  rw [go_jump (a := 0) (b := 0) (c := 0) rfl (by decide) (by show 0 < 4; omega)]
  rfl
theorem thr_run (hx : x.length ≤ 200) : ∀ m k f r, k + m = x.length → 3 * m ≤ f → (goP thrL [x] f ⟨0, [r, 0, 0, 0], [x.take k], [(k : Int)]⟩).1.outs = [x]
  | 0, k, f, r, hk, hf => by
    obtain rfl : k = x.length := by omega
    rw [List.take_length, go_end (a := 0) (b := 0) (c := 0) rfl (by decide) rfl]
  | m + 1, k, f, r, hk, hf => by
    obtain ⟨f, rfl⟩ : ∃ g, f = g + 3 := ⟨f - 3, by omega⟩
    have hl : (x.take k).length < 400 := by rw [List.length_take]; omega
    rw [thr_round (by omega) hl, ← takeS_snoc x (by omega)]
    exact thr_run hx m (k + 1) f _ (by omega) (by omega)
theorem twc_round (hk : k < x.length) (h1 : o1.length < 399) :
    goP twcL [x] (n + 4) ⟨0, [r, 0, 0, 0], [o1], [(k : Int)]⟩ = goP twcL [x] n ⟨0, [x.getD k default, 0, 0, 0], [o1 ++ [x.getD k default] ++ [x.getD k default]], [((k + 1 : Nat) : Int)]⟩ := by
  rw [show n + 4 = n + 3 + 1 from rfl, go_read (a := 0) (b := 0) (c := 0) rfl (by decide) (by show (k : Int) ≠ (x.length : Int); omega)]
  show goP twcL [x] (n + 2 + 1) ⟨1, [x.getD k default, 0, 0, 0], [o1], [(k : Int) + 1]⟩ = _
  rw [go_write (a := 0) (b := 0) (c := 0) rfl (by decide) (by show o1.length < 400; omega) (by show 0 < 4; omega)]
  show goP twcL [x] (n + 1 + 1) ⟨2, [x.getD k default, 0, 0, 0], [o1 ++ [x.getD k default]], [(k : Int) + 1]⟩ = _
  rw [go_write (a := 0) (b := 0) (c := 0) rfl (by decide) (by show (o1 ++ [x.getD k default]).length < 400; simp; omega) (by show 0 < 4; omega)]
  show goP twcL [x] (n + 1) ⟨3, [x.getD k default, 0, 0, 0], [o1 ++ [x.getD k default] ++ [x.getD k default]], [(k : Int) + 1]⟩ = _
  rw [go_jump (a := 0) (b := 0) (c := 0) rfl (by decide) (by show 0 < 4; omega)]
  rfl
theorem twc_run (hx : x.length ≤ 199) : ∀ m k f r, k + m = x.length → 4 * m ≤ f → (goP twcL [x] f ⟨0, [r, 0, 0, 0], [holdL 2 (x.take k)], [(k : Int)]⟩).1.outs = [holdL 2 x]
  | 0, k, f, r, hk, hf => by
    obtain rfl : k = x.length := by omega
    rw [List.take_length, go_end (a := 0) (b := 0) (c := 0) rfl (by decide) rfl]
  | m + 1, k, f, r, hk, hf => by
    obtain ⟨f, rfl⟩ : ∃ g, f = g + 4 := ⟨f - 4, by omega⟩
    have hl : (holdL 2 (x.take k)).length < 399 := by rw [holdL_len, List.length_take]; omega
    rw [twc_round (by omega) hl]
    have e : holdL 2 (x.take k) ++ [x.getD k default] ++ [x.getD k default] = holdL 2 (x.take (k + 1)) := by
      rw [holdL_step 2 (by omega), List.append_assoc]; rfl
    rw [e]
    exact twc_run hx m (k + 1) f _ (by omega) (by omega)
theorem sum_round (hk : k < x.length) (h1 : o1.length < 400) :
    goP sumPL [x] (n + 4) ⟨0, [r0, r1, 0, 0], [o1], [(k : Int)]⟩ = goP sumPL [x] n ⟨0, [wrapT (r0 + x.getD k default), x.getD k default, 0, 0], [o1 ++ [wrapT (r0 + x.getD k default)]], [((k + 1 : Nat) : Int)]⟩ := by
  rw [show n + 4 = n + 3 + 1 from rfl, go_read (a := 1) (b := 0) (c := 0) rfl (by decide) (by show (k : Int) ≠ (x.length : Int); omega)]
  show goP sumPL [x] (n + 2 + 1) ⟨1, [r0, x.getD k default, 0, 0], [o1], [(k : Int) + 1]⟩ = _
  rw [go_add (a := 0) (b := 0) (c := 1) rfl (by decide)]
  show goP sumPL [x] (n + 1 + 1) ⟨2, [wrapT (r0 + x.getD k default), x.getD k default, 0, 0], [o1], [(k : Int) + 1]⟩ = _
  rw [go_write (a := 0) (b := 0) (c := 0) rfl (by decide) (by show o1.length < 400; omega) (by show 0 < 4; omega)]
  show goP sumPL [x] (n + 1) ⟨3, [wrapT (r0 + x.getD k default), x.getD k default, 0, 0], [o1 ++ [wrapT (r0 + x.getD k default)]], [(k : Int) + 1]⟩ = _
  rw [go_jump (a := 0) (b := 0) (c := 0) rfl (by decide) (by show 0 < 4; omega)]
  rfl
theorem sum_run (hx : x.length ≤ 200) : ∀ m k f r, k + m = x.length → 4 * m ≤ f → (goP sumPL [x] f ⟨0, [(sumsL x k).2, r, 0, 0], [(sumsL x k).1], [(k : Int)]⟩).1.outs = [(sumsL x x.length).1]
  | 0, k, f, r, hk, hf => by
    obtain rfl : k = x.length := by omega
    rw [go_end (a := 1) (b := 0) (c := 0) rfl (by decide) rfl]
  | m + 1, k, f, r, hk, hf => by
    obtain ⟨f, rfl⟩ : ∃ g, f = g + 4 := ⟨f - 4, by omega⟩
    rw [sum_round (by omega) (by rw [sumsL_len]; omega)]
    exact sum_run hx m (k + 1) f _ (by omega) (by omega)
theorem stp_round (hk : k < x.length) (h1 : o1.length < 400) :
    goP stpPL [x] (n + 6) ⟨0, [r0, r1, r2, r3], [o1], [(k : Int)]⟩ = goP stpPL [x] n ⟨0, [wrapT (x.getD k default + 0), x.getD k default, wrapT (x.getD k default - r0), 0], [o1 ++ [wrapT (x.getD k default - r0)]], [((k + 1 : Nat) : Int)]⟩ := by
  rw [show n + 6 = n + 5 + 1 from rfl, go_read (a := 1) (b := 0) (c := 0) rfl (by decide) (by show (k : Int) ≠ (x.length : Int); omega)]
  show goP stpPL [x] (n + 4 + 1) ⟨1, [r0, x.getD k default, r2, r3], [o1], [(k : Int) + 1]⟩ = _
  rw [go_sub (a := 2) (b := 1) (c := 0) rfl (by decide)]
  show goP stpPL [x] (n + 3 + 1) ⟨2, [r0, x.getD k default, wrapT (x.getD k default - r0), r3], [o1], [(k : Int) + 1]⟩ = _
  rw [go_write (a := 2) (b := 0) (c := 0) rfl (by decide) (by show o1.length < 400; omega) (by show 2 < 4; omega)]
  show goP stpPL [x] (n + 2 + 1) ⟨3, [r0, x.getD k default, wrapT (x.getD k default - r0), r3], [o1 ++ [wrapT (x.getD k default - r0)]], [(k : Int) + 1]⟩ = _
  rw [go_set (a := 3) (b := 0) (c := 0) rfl (by decide)]
  show goP stpPL [x] (n + 1 + 1) ⟨4, [r0, x.getD k default, wrapT (x.getD k default - r0), 0], [o1 ++ [wrapT (x.getD k default - r0)]], [(k : Int) + 1]⟩ = _
  rw [go_add (a := 0) (b := 1) (c := 3) rfl (by decide)]
  show goP stpPL [x] (n + 1) ⟨5, [wrapT (x.getD k default + 0), x.getD k default, wrapT (x.getD k default - r0), 0], [o1 ++ [wrapT (x.getD k default - r0)]], [(k : Int) + 1]⟩ = _
  rw [go_jump (a := 0) (b := 0) (c := 0) rfl (by decide) (by show 0 < 4; omega)]
  rfl
theorem stp_run (hs : strOk x = true) (hx : x.length ≤ 200) : ∀ m k f r1 r2 r3, k + m = x.length → 6 * m ≤ f → (goP stpPL [x] f ⟨0, [lastA x k, r1, r2, r3], [stepsL x k], [(k : Int)]⟩).1.outs = [stepsL x x.length]
  | 0, k, f, r1, r2, r3, hk, hf => by
    obtain rfl : k = x.length := by omega
    rw [go_end (a := 1) (b := 0) (c := 0) rfl (by decide) rfl]
  | m + 1, k, f, r1, r2, r3, hk, hf => by
    obtain ⟨f, rfl⟩ : ∃ g, f = g + 6 := ⟨f - 6, by omega⟩
    rw [stp_round (by omega) (by rw [stepsL_len]; omega)]
    have e : wrapT (x.getD k default + 0) = lastA x (k + 1) := by
      have hm : x.getD k default ∈ x := getD_mem (by omega)
      have ht : tok (x.getD k default) = true := by
        simp only [strOk, Bool.and_eq_true, List.all_eq_true] at hs
        exact hs.1 _ hm
      have := tok_iff.1 ht
      exact wrapT_un (q := 0) (by show x.getD k default + 0 = x.getD k default + 1999999 * 0; omega) this.1 this.2
    rw [e]
    exact stp_run hs hx m (k + 1) f _ _ _ (by omega) (by omega)
end
def prgL : Nat → List I4
  | 0 => thrL
  | 1 => sumPL
  | 2 => stpPL
  | _ => twcL
def prg (q : Nat) : PG := ⟨1, 1, prgL q⟩
def appF : Nat → List Int → List Int
  | 0, x => x
  | 1, x => (sumsL x x.length).1
  | 2, x => stepsL x x.length
  | _, x => holdL 2 x
theorem prg_run (q : Nat) {x : List Int} (hs : strOk x = true) (hx : x.length ≤ 199) : (goP (prgL q) [x] 3000 (ps0 1 1)).1.outs = [appF q x] := by
  match q with
  | 0 => exact thr_run (by omega) x.length 0 3000 0 (by omega) (by omega)
  | 1 => exact sum_run (by omega) x.length 0 3000 0 (by omega) (by omega)
  | 2 => exact stp_run hs (by omega) x.length 0 3000 0 0 0 (by omega) (by omega)
  | q + 3 => exact twc_run hx x.length 0 3000 0 (by omega) (by omega)
theorem appF_len (q : Nat) (x : List Int) : (appF q x).length ≤ 2 * x.length := by
  match q with
  | 0 => show x.length ≤ _; omega
  | 1 => show (sumsL x x.length).1.length ≤ _; rw [sumsL_len]; omega
  | 2 => show (stepsL x x.length).length ≤ _; rw [stepsL_len]; omega
  | q + 3 => show (holdL 2 x).length ≤ _; rw [holdL_len]; omega
theorem appF_ok (q : Nat) {x : List Int} (hs : strOk x = true) (hx : x.length ≤ 200) : strOk (appF q x) = true := by
  have hl := appF_len q x
  simp only [strOk, Bool.and_eq_true, decide_eq_true_eq, List.all_eq_true] at hs ⊢
  refine ⟨fun y hy => ?_, by omega⟩
  match q with
  | 0 => exact hs.1 y hy
  | 1 => exact tok_iff.2 ((sumsL_ok x x.length).1 y hy)
  | 2 => exact tok_iff.2 (stepsL_ok x x.length y hy)
  | q + 3 =>
    simp only [appF, holdL, List.mem_flatMap] at hy
    obtain ⟨z, hz, hy⟩ := hy
    rw [(List.mem_replicate.1 hy).2]
    exact hs.1 z hz
def qAt (bs : List Int) (j : Nat) : Nat := (atO bs ((j : Int) + 2)).toNat % 4
def chP (bs : List Int) (n : Nat) : List PG := (List.range n).map fun j => prg (qAt bs j)
def wantL (bs : List Int) (s : List Int) : Nat → List Int
  | 0 => s
  | j + 1 => appF (qAt bs j) (wantL bs s j)
theorem chP_len (bs : List Int) (n : Nat) : (chP bs n).length = n := by simp [chP]
theorem chP_snoc (bs : List Int) (n : Nat) : chP bs n ++ [prg (qAt bs n)] = chP bs (n + 1) := by simp [chP, List.range_succ]
theorem chP_get {bs : List Int} {n k : Nat} (h : k < n) : (chP bs n).getD k default = prg (qAt bs k) := by
  unfold chP
  rw [List.getD_eq_getElem?_getD, List.getElem?_map, List.getElem?_range h]
  rfl
theorem wantL_ok (bs : List Int) {s : List Int} (hs : strOk s = true) (hl : s.length ≤ 12) : ∀ j ≤ 5, strOk (wantL bs s j) = true ∧ (wantL bs s j).length ≤ 12 * 2 ^ j
  | 0, _ => ⟨hs, by simpa [wantL] using hl⟩
  | j + 1, h => by
    obtain ⟨h1, h2⟩ := wantL_ok bs hs hl j (by omega)
    have h3 : 2 ^ j ≤ 2 ^ 4 := Nat.pow_le_pow_right (by omega) (by omega)
    have h4 := appF_len (qAt bs j) (wantL bs s j)
    refine ⟨appF_ok _ h1 (by omega), ?_⟩
    show (appF (qAt bs j) (wantL bs s j)).length ≤ _
    rw [Nat.pow_succ]
    omega
theorem wantL_199 (bs : List Int) {s : List Int} (hs : strOk s = true) (hl : s.length ≤ 12) {j : Nat} (h : j ≤ 4) : (wantL bs s j).length ≤ 199 := by
  have := (wantL_ok bs hs hl j (by omega)).2
  have h3 : 2 ^ j ≤ 2 ^ 4 := Nat.pow_le_pow_right (by omega) h
  omega
theorem chain_feed {m : Nat} (h0 : 0 < m) (h : m < 6) (s : List Int) : chainK m s = feedK (chainK m []) 0 s := by
  rcases (show m = 1 ∨ m = 2 ∨ m = 3 ∨ m = 4 ∨ m = 5 by omega) with rfl | rfl | rfl | rfl | rfl <;> rfl
theorem prg_ok (q : Nat) : progOk 1 1 (prgL q) = true := by
  match q with
  | 0 => decide
  | 1 => decide
  | 2 => decide
  | q + 3 => exact (by decide : progOk 1 1 twcL = true)
theorem net_ps {ps qs : List PG} {ks : List LK} (hl : ps.length = qs.length) (hi : ∀ k, (ps.getD k default).i = (qs.getD k default).i) (ho : ∀ k, (ps.getD k default).o = (qs.getD k default).o) (hp : ps.all pgOk = true) (h : netOk qs ks = true) : netOk ps ks = true := by
  have e : linkOk ps = linkOk qs := by
    funext x
    unfold linkOk endsOk
    rw [hl, hi, ho]
  have e2 : portsOk ps ks = portsOk qs ks := by
    funext i
    unfold portsOk
    rw [hi, ho]
  unfold netOk netSmall at h ⊢
  rw [e, e2, hl, hp]
  simp only [Bool.and_eq_true] at h ⊢
  exact ⟨⟨⟨h.1.1.1, trivial⟩, h.1.2⟩, h.2⟩
theorem rep_net : ∀ m < 6, 0 < m → netOk (List.replicate m (prg 0)) (chainK m []) = true := by decide +kernel
theorem ch_to : ∀ m : Nat, m < 6 → ∀ k : Nat, k < m → onlyAt (isTo (k : Int) 0) (chainK m []) = (k : Int) := by decide +kernel
theorem ch_fr : ∀ m : Nat, m < 6 → ∀ k : Nat, k < m → ((chainK m []).getD (k + 1) default).fr = (k : Int) ∧ ((chainK m []).getD (k + 1) default).ou = 0 ∧ ((chainK m []).getD (k + 1) default).tk = [] := by decide +kernel
theorem ch_f0 : ∀ m < 6, 0 < m → ((chainK m []).getD 0 default).fr = -1 ∧ ((chainK m []).getD 0 default).tk = [] := by decide +kernel
theorem ch_out : ∀ m < 6, 0 < m → ∀ j < m + 1, isOut ((chainK m []).getD j default) = (j == m) := by decide +kernel
section
variable {bs s : List Int} {m : Nat}
theorem ch_get (h0 : 0 < m) (h6 : m < 6) (j : Nat) : (chainK m s).getD j default = if 0 = j ∧ 0 < (chainK m []).length then moreT ((chainK m []).getD 0 default) s else (chainK m []).getD j default := by
  rw [chain_feed h0 h6]
  exact gset_any
theorem ch_net (h0 : 0 < m) (h6 : m < 6) (hs : strOk s = true) : netOk (chP bs m) (chainK m s) = true := by
  rw [chain_feed h0 h6]
  have hg : ∀ k, ((chP bs m).getD k default).i = ((List.replicate m (prg 0)).getD k default).i ∧ ((chP bs m).getD k default).o = ((List.replicate m (prg 0)).getD k default).o := fun k => by
    by_cases hk : k < m
    · rw [chP_get hk, List.getD_eq_getElem?_getD, List.getElem?_replicate, if_pos hk]
      exact ⟨rfl, rfl⟩
    · rw [List.getD_eq_getElem?_getD, List.getElem?_eq_none (by rw [chP_len]; omega), List.getD_eq_getElem?_getD, List.getElem?_replicate, if_neg hk]
      exact ⟨rfl, rfl⟩
  have hp : (chP bs m).all pgOk = true := by
    rw [List.all_eq_true]
    intro p hp
    obtain ⟨j, _, rfl⟩ := List.mem_map.1 hp
    exact prg_ok _
  have hn := net_ps (ks := chainK m []) (by rw [chP_len, List.length_replicate]) (fun k => (hg k).1) (fun k => (hg k).2) hp (rep_net m h6 h0)
  obtain ⟨f1, f2⟩ := ch_f0 m h6 h0
  refine feed_netOk hn (by omega) (by rw [chainK_len]; omega) f1 ?_
  show strOk (((chainK m []).getD 0 default).tk ++ s) = true
  rw [f2]
  exact hs
theorem ch_atTo (h0 : 0 < m) (h6 : m < 6) {k : Nat} (hk : k < m) : onlyAt (isTo (k : Int) 0) (chainK m s) = (k : Int) := by
  rw [chain_feed h0 h6, (feed_KLe (ks := chainK m []) (tk := s) (k := 0) (ch_f0 m h6 h0).1).atTo]
  exact ch_to m h6 k hk
theorem ch_least {H : List (List Int)} {rounds : Int} (h0 : 0 < m) (h6 : m < 6) (hs : strOk s = true) (hl : s.length ≤ 12) (w : LstW (chP bs m) (chainK m s) H rounds) : ∀ k ≤ m, H.getD k default = wantL bs s k
  | 0, _ => by
    have := nxts_get (ps := chP bs m) (hs := H) (ks := chainK m s) (j := 0) (by rw [chainK_len]; omega)
    rw [w.fix] at this
    rw [this, ch_get h0 h6, if_pos ⟨rfl, by rw [chainK_len]; omega⟩]
    obtain ⟨f1, f2⟩ := ch_f0 m h6 h0
    unfold nxtL moreT
    rw [if_neg (by simp only; omega), f2]
    rfl
  | k + 1, hk => by
    have ih := ch_least h0 h6 hs hl w k (by omega)
    have := nxts_get (ps := chP bs m) (hs := H) (ks := chainK m s) (j := k + 1) (by rw [chainK_len]; omega)
    rw [w.fix] at this
    obtain ⟨f1, f2, f3⟩ := ch_fr m h6 k (by omega)
    rw [this, ch_get h0 h6, if_neg (by omega)]
    unfold nxtL
    rw [if_pos (by omega), f1, f2, f3, List.nil_append, Int.toNat_natCast]
    have hi : insK (chP bs m) (chainK m s) H k = [wantL bs s k] := by
      unfold insK insN
      rw [chP_get (by omega)]
      show [insAt (chainK m s) H k 0] = _
      unfold insAt
      rw [show (((0 : Nat) : Int)) = 0 from rfl, ch_atTo h0 h6 (by omega), Int.toNat_natCast, ih]
    unfold outK runK
    rw [hi, chP_get (by omega)]
    have hw := wantL_ok bs hs hl k (by omega)
    have := prg_run (qAt bs k) hw.1 (wantL_199 bs hs hl (by omega))
    show ((goP (prgL (qAt bs k)) [wantL bs s k] 3000 (ps0 1 1)).1.outs).getD (0 : Int).toNat default = _
    rw [this]
    rfl
theorem obsU_none {ks : List LK} {H : List (List Int)} : ∀ j, (∀ k < j, isOut (ks.getD k default) = false) → obsU ks H j = []
  | 0, _ => rfl
  | j + 1, h => by
    unfold obsU
    rw [if_neg (by rw [h j (by omega)]; simp)]
    exact obsU_none j fun k hk => h k (by omega)
theorem ch_obs (h0 : 0 < m) (h6 : m < 6) (hs : strOk s = true) (hl : s.length ≤ 12) : obsO (chP bs m) (chainK m s) = ([], false) ∨ obsO (chP bs m) (chainK m s) = ([wantL bs s m], true) := by
  cases hb : (leastO (chP bs m) (chainK m s)).2.2 with
  | false => exact .inl (obsO_no hb)
  | true =>
    right
    have w := least_w hb
    rw [obsO_yes hb, chainK_len]
    have ho : ∀ j < m + 1, isOut ((chainK m s).getD j default) = (j == m) := fun j hj => by
      rw [← ch_out m h6 h0 j hj, chain_feed h0 h6]
      unfold isOut
      rw [(feed_KLe (ks := chainK m []) (tk := s) (k := 0) (ch_f0 m h6 h0).1).to j]
    unfold obsU
    rw [if_pos (by rw [ho m (by omega)]; simp), obsU_none m (fun k hk => by rw [ho k (by omega)]; exact beq_eq_false_iff_ne.2 (by omega)), ch_least h0 h6 hs hl w m (Nat.le_refl _)]
    rfl
theorem ch_chain (h0 : 0 < m) (h6 : m < 6) (hs : strOk s = true) : chainO (chP bs m) s = (chP bs m, chainK m s, true) := by
  have hl := chP_len bs m
  rw [chain_yes (by omega) (fun j hj => by rw [chP_get (by omega)]; rfl), hl]
  unfold chk
  rw [if_pos (ch_net h0 h6 hs)]
end
end Go.Proofs.Ytimgfinlbhodhaa.Ab
