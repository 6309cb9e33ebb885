/- Networks that are joined: plain definitions and lemmas. -/
import Derived.Test.YtimgfinlbhodhaaFwGd
namespace Go.Proofs.Ytimgfinlbhodhaa.Ab
open Go
set_option linter.unusedVariables false
set_option linter.unusedSimpArgs false
def jP (ps qs : List PG) (j : Nat) : List PG := ps ++ qs.take j
def jK (d : Int) (ks ls : List LK) (j : Nat) : List LK := joinK d ks (ls.take j)
theorem jP_len {ps qs : List PG} {j : Nat} (h : j ≤ qs.length) : (jP ps qs j).length = ps.length + j := by
 unfold jP
 rw [List.length_append, List.length_take]
 omega
theorem jK_len {d : Int} {ks ls : List LK} {j : Nat} (h : j ≤ ls.length) : (jK d ks ls j).length = ks.length + j := by
 unfold jK
 rw [joinK_len, List.length_take]
 omega
theorem jP_zero (ps qs : List PG) : jP ps qs 0 = ps := by simp [jP]
theorem jK_zero (d : Int) (ks ls : List LK) : jK d ks ls 0 = ks := by simp [jK, joinK]
theorem jP_end (ps qs : List PG) : jP ps qs qs.length = ps ++ qs := by simp [jP]
theorem jK_end (d : Int) (ks ls : List LK) : jK d ks ls ls.length = joinK d ks ls := by simp [jK]
theorem jP_snoc {ps qs : List PG} {j : Nat} (h : j < qs.length) : jP ps qs j ++ [qs.getD j default] = jP ps qs (j + 1) := by
 unfold jP
 rw [List.append_assoc, take_snoc h]
theorem jK_snoc {d : Int} {ks ls : List LK} {j : Nat} (h : j < ls.length) {a b : Int} (ha : a = if (ls.getD j default).fr ≥ 0 then (ls.getD j default).fr + d else (ls.getD j default).fr) (hb : b = if (ls.getD j default).to ≥ 0 then (ls.getD j default).to + d else (ls.getD j default).to) :
  jK d ks ls j ++ [⟨a, (ls.getD j default).ou, b, (ls.getD j default).ip, (ls.getD j default).tk⟩] = jK d ks ls (j + 1) := by
 subst ha hb
 exact joinK_snoc h
theorem app_NW {ps qs : List PG} (h : NW ps) (h2 : NW qs) : NW (ps ++ qs) := fun p hp => by
 rcases List.mem_append.1 hp with hp | hp
 ·exact h p hp
 ·exact h2 p hp
theorem lk_fr {ps : List PG} {x : LK} (h : linkOk ps x = true) (hp : ps.length ≤ 12) (h0 : x.fr ≥ 0) : x.fr < 12 := by
 have := ends_fr (linkOk_ends h) h0
 omega
theorem lk_to {ps : List PG} {x : LK} (h : linkOk ps x = true) (hp : ps.length ≤ 12) (h0 : x.to ≥ 0) : x.to < 12 := by
 have := ends_to (linkOk_ends h) h0
 omega
end Go.Proofs.Ytimgfinlbhodhaa.Ab
