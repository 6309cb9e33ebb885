/- Programs that are drawn: what is known of their rows. -/
import Derived.Test.YtimgfinlbhodhaaAbCur
namespace Go.Proofs.Ytimgfinlbhodhaa.Ab
open Go
set_option linter.unusedVariables false
set_option linter.unusedSimpArgs false
def rowOk (i o n : Int) (r : List Int) : Prop := (1 ≤ r.length ∧ r.length ≤ 4) ∧ opsOk i o n (pad4 r) = true
theorem inR_of {x a b : Int} (h1 : a ≤ x) (h2 : x ≤ b) : inR x a b = true := by
 simp only [inR, Bool.and_eq_true, decide_eq_true_eq]
 exact ⟨h1, h2⟩
theorem inR_mono {x a b b' : Int} (h : inR x a b = true) (hb : b ≤ b') : inR x a b' = true := by
 simp only [inR, Bool.and_eq_true, decide_eq_true_eq] at h ⊢
 omega
theorem ops_mono {i o n n' : Int} {x : I4} (h : opsOk i o n x = true) (hn : n ≤ n') : opsOk i o n' x = true := by
 unfold opsOk at h ⊢
 by_cases h1 : x.1 = 1
 ·rw [if_pos h1] at h ⊢; exact h
 rw [if_neg h1] at h ⊢
 clear h1
 by_cases h1 : x.1 = 2
 ·rw [if_pos h1] at h ⊢; exact h
 rw [if_neg h1] at h ⊢
 clear h1
 by_cases h1 : x.1 = 3
 ·rw [if_pos h1] at h ⊢; exact h
 rw [if_neg h1] at h ⊢
 clear h1
 by_cases h1 : x.1 = 4 ∨ x.1 = 5 ∨ x.1 = 6 ∨ x.1 = 7
 ·rw [if_pos h1] at h ⊢; exact h
 rw [if_neg h1] at h ⊢
 clear h1
 by_cases h1 : x.1 = 8
 ·rw [if_pos h1] at h ⊢; simp only [Bool.and_eq_true] at h ⊢; exact ⟨h.1, inR_mono h.2.1 hn, h.2.2⟩
 rw [if_neg h1] at h ⊢
 clear h1
 by_cases h1 : x.1 = 9 ∨ x.1 = 10
 ·rw [if_pos h1] at h ⊢; simp only [Bool.and_eq_true] at h ⊢; exact ⟨h.1, inR_mono h.2.1 hn, h.2.2⟩
 rw [if_neg h1] at h ⊢
 clear h1
 exact h
theorem row_mono {i o n n' : Int} {r : List Int} (h : rowOk i o n r) (hn : n ≤ n') : rowOk i o n' r := ⟨h.1, ops_mono h.2 hn⟩
structure RW (i o : Int) (L : List (List Int)) (B : Nat) : Prop where
 len : L.length ≤ B
 ok : ∀ r ∈ L, rowOk i o ((L.length : Int) + 1) r
theorem rw_nil (i o : Int) : RW i o [] 0 := ⟨by simp, by simp⟩
theorem RW.more {i o : Int} {L : List (List Int)} {B B' : Nat} (h : RW i o L B) (hb : B ≤ B') : RW i o L B' := ⟨by have := h.len; omega, h.ok⟩
theorem rw_add {i o : Int} {L : List (List Int)} {B : Nat} {r : List Int} (h : RW i o L B) (hr : rowOk i o ((L.length : Int) + 2) r) : RW i o (L ++ [r]) (B + 1) := by
 have hl : ((L ++ [r]).length : Int) + 1 = (L.length : Int) + 2 := by simp; omega
 refine ⟨by simp; exact h.len, fun x hx => ?_⟩
 rw [hl]
 rcases List.mem_append.1 hx with hx | hx
 ·exact row_mono (h.ok x hx) (by omega)
 ·rw [List.mem_singleton] at hx; rw [hx]; exact hr
theorem row_read {i o n a k : Int} (h1 : 0 ≤ a) (h2 : a < 2) (h3 : 0 ≤ k) (h4 : k < i) : rowOk i o n [1, a, k] := by
 refine ⟨by simp, ?_⟩
 show (inR a 0 3 && inR k 0 (i - 1) && ((0 : Int) == 0)) = true
 rw [inR_of (by omega) (by omega), inR_of (by omega) (by omega)]; rfl
theorem row_write {i o n a k : Int} (h1 : 0 ≤ a) (h2 : a < 3) (h3 : 0 ≤ k) (h4 : k < o) : rowOk i o n [2, a, k] := by
 refine ⟨by simp, ?_⟩
 show (inR a 0 3 && inR k 0 (o - 1) && ((0 : Int) == 0)) = true
 rw [inR_of (by omega) (by omega), inR_of (by omega) (by omega)]; rfl
theorem row_alu {i o n p a b c : Int} (hp : p ∈ [4, 5, 6, 7]) (h1 : 0 ≤ a) (h2 : a < 4) (h3 : 0 ≤ b) (h4 : b < 4) (h5 : 0 ≤ c) (h6 : c < 4) : rowOk i o n [p, a, b, c] := by
 refine ⟨by simp, ?_⟩
 have e : (inR a 0 3 && inR b 0 3 && inR c 0 3) = true := by rw [inR_of (by omega) (by omega), inR_of (by omega) (by omega), inR_of (by omega) (by omega)]; rfl
 simp only [List.mem_cons, List.not_mem_nil, or_false] at hp
 rcases hp with rfl | rfl | rfl | rfl <;> exact e
theorem row_set {i o n a v : Int} (h1 : 0 ≤ a) (h2 : a < 4) (h3 : 0 ≤ v) (h4 : v < 7) : rowOk i o n [3, a, v - 2] := by
 refine ⟨by simp, ?_⟩
 show (inR a 0 3 && tok (v - 2) && ((0 : Int) == 0)) = true
 rw [inR_of (by omega) (by omega)]
 have : tok (v - 2) = true := inR_of (by omega) (by omega)
 rw [this]; rfl
theorem row_jump {i o n p a t : Int} (hp : p ∈ [9, 10]) (h1 : 0 ≤ a) (h2 : a < 4) (h3 : 0 ≤ t) (h4 : t ≤ n) : rowOk i o n [p, a, t] := by
 refine ⟨by simp, ?_⟩
 have e : (inR a 0 3 && (inR t 0 n && ((0 : Int) == 0))) = true := by rw [inR_of (by omega) (by omega), inR_of (by omega) (by omega)]; rfl
 simp only [List.mem_cons, List.not_mem_nil, or_false] at hp
 rcases hp with rfl | rfl <;> exact e
theorem row_halt {i o n : Int} : rowOk i o n [11] := ⟨by simp, rfl⟩
theorem rw_prog {i o : Int} {L : List (List Int)} {B : Nat} (h : RW i o L B) (hB : B ≤ 23) (hi : 0 ≤ i ∧ i ≤ 3) (ho : 0 ≤ o ∧ o ≤ 3) : progOk i o (L.map pad4 ++ [(8, 0, 0, 0)]) = true := by
 have hl := h.len
 have hn : ((L.map pad4 ++ [((8, 0, 0, 0) : I4)]).length : Int) = (L.length : Int) + 1 := by simp
 unfold progOk
 rw [hn, inR_of hi.1 hi.2, inR_of ho.1 ho.2, inR_of (by omega) (by omega)]
 simp only [Bool.true_and, List.all_eq_true]
 intro x hx
 rcases List.mem_append.1 hx with hx | hx
 ·obtain ⟨r, hr, rfl⟩ := List.mem_map.1 hx
  exact (h.ok r hr).2
 ·rw [List.mem_singleton] at hx
  subst hx
  show (((0 : Int) == 0) && (inR 0 0 ((L.length : Int) + 1) && ((0 : Int) == 0))) = true
  rw [inR_of (by omega) (by omega)]; rfl
theorem tokS_len255 (bs : List Int) (i h : Int) {m : Int} (h0 : 0 ≤ m) (h1 : m ≤ 255) : (tokS bs i h m).1.length ≤ 255 := by
 unfold tokS
 rw [toksN_len]
 have := bel_ok bs i h (n := m + 1) (by omega)
 omega
theorem tokS_cu {bs : List Int} {i : Int} (c : CuOk bs i) (h m : Int) : CuOk bs (tokS bs i h m).2.1 := toksN_cu (bel_cu c h (m + 1)) _ _
end Go.Proofs.Ytimgfinlbhodhaa.Ab
