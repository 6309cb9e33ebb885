/- Marks found again: lemmas. -/
import Derived.Test.YticgaflgbljhlaaAbNet1
import Derived.Test.YticgaflgbljhlaaAbSs
namespace Go.Proofs.Yticgaflgbljhlaa.Ab
open Go
set_option linter.unusedVariables false
set_option linter.unusedSimpArgs false
theorem heldP_neg {n : Int} {l : List I4} (h : heldP n l < 0) : ¬ l = mkP n l.length ∨ n + 4 * (l.length : Int) < 0 := by
  unfold heldP at h
  split at h
  · exact .inr h
  · rename_i hh; exact .inl hh
theorem heldI_neg {n : Int} {l : List Int} (h : heldI n l < 0) : ¬ l = mkI n l.length ∨ n + (l.length : Int) < 0 := by
  unfold heldI at h
  split at h
  · exact .inr h
  · rename_i hh; exact .inl hh
theorem heldP_pos {n : Int} {l : List I4} (h : ¬ heldP n l < 0) : l = mkP n l.length ∧ heldP n l = n + 4 * (l.length : Int) := by
  unfold heldP at h ⊢
  split at h
  · rename_i hh; exact ⟨hh, if_pos hh⟩
  · omega
theorem heldI_pos {n : Int} {l : List Int} (h : ¬ heldI n l < 0) : l = mkI n l.length ∧ heldI n l = n + (l.length : Int) := by
  unfold heldI at h ⊢
  split at h
  · rename_i hh; exact ⟨hh, if_pos hh⟩
  · omega
theorem mPg_mk {n : Int} {p : PG} (h1 : p.i = n) (h2 : p.o = n + 1) (h3 : p.l = mkP (n + 1 + 1) p.l.length) : p = mPg n p := by
  obtain ⟨a, b, c⟩ := p
  simp only at h1 h2 h3
  simp only [mPg, PG.mk.injEq]
  exact ⟨h1, h2, h3⟩
theorem mLk_mk {n : Int} {x : LK} (h1 : x.fr = n) (h2 : x.ou = n + 1) (h3 : x.to = n + 1 + 1) (h4 : x.ip = n + 1 + 1 + 1) (h5 : x.tk = mkI (n + 1 + 1 + 1 + 1) x.tk.length) : x = mLk n x := by
  obtain ⟨a, b, c, d, e⟩ := x
  simp only at h1 h2 h3 h4 h5
  simp only [mLk, LK.mk.injEq]
  exact ⟨h1, h2, h3, h4, h5⟩
theorem mAt_mk {n : Int} {x : AT} (h1 : x.pc = n) (h5 : x.rs = mkI (n + 1) x.rs.length) : x = mAt n x := by
  obtain ⟨a, b⟩ := x
  simp only at h1 h5
  simp only [mAt, AT.mk.injEq]
  exact ⟨h1, h5⟩
theorem mPg_bad {n : Int} {p : PG} (hn : 0 ≤ n) (h : heldP (n + 1 + 1) p.l < 0) : p ≠ mPg n p := by
  intro e
  rcases heldP_neg h with h | h
  · apply h
    rw [e]
    simp [mPg, mkP_len]
  · omega
theorem mLk_bad {n : Int} {x : LK} (hn : 0 ≤ n) (h : heldI (n + 1 + 1 + 1 + 1) x.tk < 0) : x ≠ mLk n x := by
  intro e
  rcases heldI_neg h with h | h
  · apply h
    rw [e]
    simp [mLk, mkI_len]
  · omega
theorem mAt_bad {n : Int} {x : AT} (hn : 0 ≤ n) (h : heldI (n + 1) x.rs < 0) : x ≠ mAt n x := by
  intro e
  rcases heldI_neg h with h | h
  · apply h
    rw [e]
    simp [mAt, mkI_len]
  · omega
theorem heldPS_le (n : Int) (ps : List PG) : heldPS n ps ≤ max (-1) (n + (tP ps : Int)) := by
  unfold heldPS heldG tP
  split <;> omega
theorem heldKS_le (n : Int) (ps : List LK) : heldKS n ps ≤ max (-1) (n + (tK ps : Int)) := by
  unfold heldKS heldG tK
  split <;> omega
theorem heldAS_le (n : Int) (ps : List AT) : heldAS n ps ≤ max (-1) (n + (tA ps : Int)) := by
  unfold heldAS heldG tA
  split <;> omega
theorem szSS_le {n : Int} (rs : List (List Int)) (h : n ≤ 1048576) : szSS n rs ≤ 1048576 := by unfold szSS; split <;> omega
theorem gtot_mem {α : Type} {f : α → Nat} {rs : List α} {x : α} (h : x ∈ rs) : f x ≤ gtot f rs := by
  induction rs with
  | nil => simp at h
  | cons r rs ih =>
    rw [gtot_cons]
    rcases List.mem_cons.1 h with rfl | h
    · omega
    · have := ih h; omega
theorem gtot_most {α : Type} {f : α → Nat} {c : Nat} {rs : List α} (h : ∀ x ∈ rs, f x ≤ c) : gtot f rs ≤ c * rs.length := by
  induction rs with
  | nil => simp [gtot_nil]
  | cons r rs ih =>
    have := h r (by simp)
    have := ih (fun x hx => h x (by simp [hx]))
    rw [gtot_cons, List.length_cons, Nat.mul_add]
    omega
theorem net_tot {ps : List PG} {ks : List LK} (h1 : ps.length ≤ 12) (h2 : ks.length ≤ 30) (h3 : ∀ p ∈ ps, p.l.length ≤ 24) (h4 : ∀ x ∈ ks, x.tk.length ≤ 400) : (1 : Int) + (tP ps : Int) + (tK ks : Int) ≤ 1048576000 := by
  have a := gtot_most (f := pL) h3
  have b := gtot_most (f := kL) h4
  rw [tP_eq, tK_eq]
  omega
theorem szT_ok {n : Int} {a b : Nat} (h : ¬ szT n a b < 0) : ((a + b : Nat) : Int) + szT n a b = n := by
  unfold szT at h ⊢
  split at h
  · omega
  · rename_i hh; rw [if_neg hh]; omega
theorem heldN_mk (n : Int) (hn : 0 ≤ n) (ps : List PG) (ks : List LK) : heldN n (mkPS n ps) (mkKS (n + (tP ps : Int)) ks) = n + (tP ps : Int) + (tK ks : Int) := by
  unfold heldN
  rw [heldPS_mk, if_neg (by omega), heldKS_mk, if_neg (by omega)]
end Go.Proofs.Yticgaflgbljhlaa.Ab
