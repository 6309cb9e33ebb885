/- What is observed of least streams, what processes wait for. Plain definitions and lemmas. -/
import Derived.Test.YtimgfinlbhodhaaFwGd
import Derived.Test.YtimgfinlbhodhaaAbFreeze
namespace Go.Proofs.Ytimgfinlbhodhaa.Ab
open Go
set_option linter.unusedVariables false
set_option linter.unusedSimpArgs false
section
variable {ps : List PG} {ks : List LK}
theorem leastG_ok : ∀ (n : Nat) (h : List (List Int)), h.length = ks.length → h.all strOk = true → (leastG ps ks n h).2.2 = true → (leastG ps ks n h).1.length = ks.length ∧ (leastG ps ks n h).1.all strOk = true
 | 0, h, _, _, hk => by simp [leastG] at hk
 | n + 1, h, h1, h2, hk => by
  unfold leastG at hk ⊢
  split at hk
  ·cases hk
  ·rename_i hr
   rw [if_neg hr]
   split at hk
   ·rename_i he
    rw [if_pos he]
    exact ⟨h1, h2⟩
   ·rename_i he
    rw [if_neg he]
    exact leastG_ok n _ (rnd_len (by simpa using hr)) (rnd_all h) hk
theorem leastO_ok (h : (leastO ps ks).2.2 = true) : netOk ps ks = true ∧ (leastO ps ks).1.length = ks.length ∧ (leastO ps ks).1.all strOk = true := by
 unfold leastO at h ⊢
 split at h
 ·rename_i hn
  rw [if_pos hn]
  exact ⟨hn, leastG_ok 300 _ (tkL_len ks) (tkL_all hn) h⟩
 ·cases h
end
section
variable {t t' : Nat → Bool} {H : List (List Int)}
end
section
variable {ps : List PG} {ks : List LK} {H : List (List Int)}
end
end Go.Proofs.Ytimgfinlbhodhaa.Ab
