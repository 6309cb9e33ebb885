/- Runs of a network, round and round or by a schedule: plain law. -/
import Derived.Test.YtimgfinlbhodhaaAbStepN
import Derived.Test.YtimgfinlbhodhaaAbWork2
namespace Go.Proofs.Ytimgfinlbhodhaa.Ab
open Go
set_option linter.unusedVariables false
set_option linter.unusedSimpArgs false
abbrev SX := List AT × List (List Int) × List (List Int) × Int
def canS (ps : List PG) (ks : List LK) (s : SX) (k : Nat) : Bool := canK ps ks s.1 s.2.1 s.2.2.1 s.2.2.2 k
def nextS (ps : List PG) (ks : List LK) (s : SX) (k : Nat) : SX := (xsK ps ks s.1 s.2.1 k, qsK ps ks s.1 s.2.1 k, hsK ps ks s.1 s.2.2.1 k, s.2.2.2 + 1)
def okS (ps : List PG) (ks : List LK) (s : SX) : Prop := stOk ps ks s.1 s.2.1 s.2.2.1 s.2.2.2 = true
def passF (ps : List PG) (ks : List LK) (most : Int) : Nat → SX → Nat → Bool → SX × Nat × Bool × Bool
 | 0, s, n, ag => (s, n, ag, false)
 | r + 1, s, n, ag => if most ≤ (n : Int) then (s, n, ag, true) else if canS ps ks s (ps.length - (r + 1)) = true then passF ps ks most r (nextS ps ks s (ps.length - (r + 1))) (n + 1) true else passF ps ks most r s n ag
def turnsF (ps : List PG) (ks : List LK) (most : Int) : Nat → SX → Nat → SX × Nat
 | 0, s, n => (s, n)
 | f + 1, s, n => if (passF ps ks most ps.length s n false).2.2.2 = true then ((passF ps ks most ps.length s n false).1, (passF ps ks most ps.length s n false).2.1) else if (passF ps ks most ps.length s n false).2.2.1 = true then turnsF ps ks most f (passF ps ks most ps.length s n false).1 (passF ps ks most ps.length s n false).2.1 else ((passF ps ks most ps.length s n false).1, (passF ps ks most ps.length s n false).2.1)
def turnsO (ps : List PG) (ks : List LK) (most : Int) (s : SX) : SX := (turnsF ps ks most 20001 s 0).1
inductive RunS (ps : List PG) (ks : List LK) : SX → Nat → SX → Prop
 | nil (s : SX) : RunS ps ks s 0 s
 | cons {s u : SX} {n k : Nat} (hk : k < ps.length) (hc : canS ps ks s k = true) (h : RunS ps ks (nextS ps ks s k) n u) : RunS ps ks s (n + 1) u
section
variable {ps : List PG} {ks : List LK} {most : Int} {s u v : SX} {m n k : Nat}
theorem okS_next (h : okS ps ks s) (hk : k < ps.length) (hc : canS ps ks s k = true) : okS ps ks (nextS ps ks s k) := st_of (step_st (stOk_w h) hk hc)
theorem RunS.ok (h : RunS ps ks s n u) (hs : okS ps ks s) : okS ps ks u := by
 induction h with
 | nil => exact hs
 | cons hk hc _ ih => exact ih (okS_next hs hk hc)
theorem RunS.time (h : RunS ps ks s n u) : u.2.2.2 = s.2.2.2 + (n : Int) := by
 induction h with
 | nil => simp
 | cons hk hc _ ih => rw [ih]; simp only [nextS]; omega
theorem RunS.trans (h : RunS ps ks s n u) (h2 : RunS ps ks u m v) : RunS ps ks s (n + m) v := by
 induction h with
 | nil => rw [Nat.zero_add]; exact h2
 | cons hk hc _ ih => rw [Nat.add_right_comm]; exact .cons hk hc (ih h2)
theorem RunS.one (hk : k < ps.length) (hc : canS ps ks s k = true) : RunS ps ks s 1 (nextS ps ks s k) := .cons hk hc (.nil _)
theorem okS_t (h : okS ps ks s) : 0 ≤ s.2.2.2 ∧ s.2.2.2 ≤ 20000 := ⟨(stOk_w h).t0, (stOk_w h).t1⟩
theorem pass_run : ∀ (r : Nat) (s : SX) (n : Nat) (ag : Bool), r ≤ ps.length → ∃ m, RunS ps ks s m (passF ps ks most r s n ag).1 ∧ (passF ps ks most r s n ag).2.1 = n + m ∧
  ((passF ps ks most r s n ag).2.2.2 = true → most ≤ ((passF ps ks most r s n ag).2.1 : Int)) ∧
  ((passF ps ks most r s n ag).2.2.1 = true → ag = true ∨ 0 < m) ∧
  ((passF ps ks most r s n ag).2.2.2 = false → (passF ps ks most r s n ag).2.2.1 = false → ag = false ∧ (passF ps ks most r s n ag).1 = s ∧ ∀ k, ps.length - r ≤ k → k < ps.length → canS ps ks s k = false)
 | 0, s, n, ag, _ => ⟨0, .nil _, by simp [passF], by simp [passF], by simp [passF], fun _ h => ⟨by simpa [passF] using h, rfl, fun k h1 h2 => by omega⟩⟩
 | r + 1, s, n, ag, hr => by
  unfold passF
  split
  ·rename_i hm
   exact ⟨0, .nil _, by simp, fun _ => hm, fun h => .inl h, fun h => by simp at h⟩
  ·split
   ·rename_i hc
    obtain ⟨m, h1, h2, h3, h4, h5⟩ := pass_run r (nextS ps ks s (ps.length - (r + 1))) (n + 1) true (by omega)
    refine ⟨m + 1, .cons (by omega) hc h1, by rw [h2]; omega, h3, fun _ => .inr (by omega), fun q1 q2 => ?_⟩
    have := (h5 q1 q2).1
    cases this
   ·rename_i hc
    obtain ⟨m, h1, h2, h3, h4, h5⟩ := pass_run r s n ag (by omega)
    refine ⟨m, h1, h2, h3, h4, fun q1 q2 => ?_⟩
    obtain ⟨g1, g2, g3⟩ := h5 q1 q2
    refine ⟨g1, g2, fun k k1 k2 => ?_⟩
    by_cases e : k = ps.length - (r + 1)
    ·rw [e]; simpa using hc
    ·exact g3 k (by omega) k2
theorem turns_run : ∀ (f : Nat) (s : SX) (n : Nat), okS ps ks s → (20001 : Int) ≤ (f : Int) + s.2.2.2 → ∃ m, RunS ps ks s m (turnsF ps ks most f s n).1 ∧ (turnsF ps ks most f s n).2 = n + m ∧ (most ≤ ((turnsF ps ks most f s n).2 : Int) ∨ ∀ k < ps.length, canS ps ks (turnsF ps ks most f s n).1 k = false)
 | 0, s, n, hs, hf => by have := okS_t hs; simp at hf; omega
 | f + 1, s, n, hs, hf => by
  obtain ⟨m, h1, h2, h3, h4, h5⟩ := pass_run (ps := ps) (ks := ks) (most := most) ps.length s n false (Nat.le_refl _)
  unfold turnsF
  split
  ·rename_i hst
   exact ⟨m, h1, h2, .inl (h3 hst)⟩
  ·rename_i hst
   have hst : (passF ps ks most ps.length s n false).2.2.2 = false := by simpa using hst
   split
   ·rename_i hag
    have hm : 0 < m := by
     rcases h4 hag with h | h
     ·cases h
     ·exact h
    have ht := h1.time
    obtain ⟨m2, g1, g2, g3⟩ := turns_run f _ (passF ps ks most ps.length s n false).2.1 (h1.ok hs) (by rw [ht]; omega)
    exact ⟨m + m2, h1.trans g1, by rw [g2, h2]; omega, g3⟩
   ·rename_i hag
    have hag : (passF ps ks most ps.length s n false).2.2.1 = false := by simpa using hag
    obtain ⟨_, g2, g3⟩ := h5 hst hag
    refine ⟨m, h1, h2, .inr fun k hk => ?_⟩
    show canS ps ks (passF ps ks most ps.length s n false).1 k = false
    rw [g2]
    exact g3 k (by omega) hk
theorem turnsO_run (hs : okS ps ks s) : ∃ m, RunS ps ks s m (turnsO ps ks most s) ∧ (most ≤ (m : Int) ∨ ∀ k < ps.length, canS ps ks (turnsO ps ks most s) k = false) := by
 have := okS_t hs
 obtain ⟨m, h1, h2, h3⟩ := turns_run (ps := ps) (ks := ks) (most := most) 20001 s 0 hs (by omega)
 rw [Nat.zero_add] at h2
 rw [h2] at h3
 exact ⟨m, h1, h3⟩
theorem pass_stop {r : Nat} {ag : Bool} {P : SX × Nat × Bool × Bool} (hr : 0 < r) (hm : most ≤ (n : Int)) (h : passF ps ks most r s n ag = P) : P = (s, n, ag, true) := by
 obtain ⟨q, rfl⟩ : ∃ q, r = q + 1 := ⟨r - 1, by omega⟩
 rw [← h, passF, if_pos hm]
theorem pass_yes {j : Nat} {ag : Bool} {P : SX × Nat × Bool × Bool} (hj : j < ps.length) (hm : ¬ most ≤ (n : Int)) (hc : canS ps ks s j = true) (h : passF ps ks most (ps.length - j) s n ag = P) : passF ps ks most (ps.length - (j + 1)) (nextS ps ks s j) (n + 1) true = P := by
 obtain ⟨q, hq⟩ : ∃ q, ps.length - j = q + 1 := ⟨ps.length - j - 1, by omega⟩
 rw [hq, passF, if_neg hm, show ps.length - (q + 1) = j by omega, if_pos hc] at h
 rw [show ps.length - (j + 1) = q by omega]
 exact h
theorem pass_no {j : Nat} {ag : Bool} {P : SX × Nat × Bool × Bool} (hj : j < ps.length) (hm : ¬ most ≤ (n : Int)) (hc : canS ps ks s j = false) (h : passF ps ks most (ps.length - j) s n ag = P) : passF ps ks most (ps.length - (j + 1)) s n ag = P := by
 obtain ⟨q, hq⟩ : ∃ q, ps.length - j = q + 1 := ⟨ps.length - j - 1, by omega⟩
 rw [hq, passF, if_neg hm, show ps.length - (q + 1) = j by omega, if_neg (by rw [hc]; simp)] at h
 rw [show ps.length - (j + 1) = q by omega]
 exact h
theorem turn_stop {f : Nat} {P : SX × Nat × Bool × Bool} {R : SX × Nat} (hf : 0 < f) (h : turnsF ps ks most f s n = R) (hp : passF ps ks most ps.length s n false = P) (hs : P.2.2.2 = true) : R = (P.1, P.2.1) := by
 obtain ⟨q, rfl⟩ : ∃ q, f = q + 1 := ⟨f - 1, by omega⟩
 rw [turnsF, hp, if_pos hs] at h
 exact h.symm
theorem turn_go {f : Nat} {P : SX × Nat × Bool × Bool} {R : SX × Nat} (hf : 0 < f) (h : turnsF ps ks most f s n = R) (hp : passF ps ks most ps.length s n false = P) (hs : P.2.2.2 = false) (ha : P.2.2.1 = true) : turnsF ps ks most (f - 1) P.1 P.2.1 = R := by
 obtain ⟨q, rfl⟩ : ∃ q, f = q + 1 := ⟨f - 1, by omega⟩
 rw [turnsF, hp, if_neg (by rw [hs]; simp), if_pos ha] at h
 exact h
theorem turn_end {f : Nat} {P : SX × Nat × Bool × Bool} {R : SX × Nat} (hf : 0 < f) (h : turnsF ps ks most f s n = R) (hp : passF ps ks most ps.length s n false = P) (hs : P.2.2.2 = false) (ha : P.2.2.1 = false) : R = (P.1, P.2.1) := by
 obtain ⟨q, rfl⟩ : ∃ q, f = q + 1 := ⟨f - 1, by omega⟩
 rw [turnsF, hp, if_neg (by rw [hs]; simp), if_neg (by rw [ha]; simp)] at h
 exact h.symm
end
end Go.Proofs.Ytimgfinlbhodhaa.Ab
