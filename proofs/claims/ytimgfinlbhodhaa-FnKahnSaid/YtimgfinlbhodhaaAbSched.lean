/- Schedules: what is drawn, what they do: plain law. -/
import Derived.Test.YtimgfinlbhodhaaAbRunT
import Derived.Test.YtimgfinlbhodhaaAbCur
namespace Go.Proofs.Ytimgfinlbhodhaa.Ab
open Go
set_option linter.unusedVariables false
set_option linter.unusedSimpArgs false
def quadX (bs : List Int) (i h : Int) : Int × Int × Int := ((curB bs i h).1 * 16777216 + (curB bs (curB bs i h).2.1 (curB bs i h).2.2).1 * 65536, (curB bs (curB bs i h).2.1 (curB bs i h).2.2).2)
def belX (bs : List Int) (i h n : Int) : Int × Int × Int :=
 (((quadX bs i h).1 + (curB bs (quadX bs i h).2.1 (quadX bs i h).2.2).1 * 256 + (curB bs (curB bs (quadX bs i h).2.1 (quadX bs i h).2.2).2.1 (curB bs (quadX bs i h).2.1 (quadX bs i h).2.2).2.2).1).tmod n, (curB bs (curB bs (quadX bs i h).2.1 (quadX bs i h).2.2).2.1 (curB bs (quadX bs i h).2.1 (quadX bs i h).2.2).2.2).2)
theorem belX_ok (bs : List Int) (i h : Int) {n : Int} (hn : 0 < n) : 0 ≤ (belX bs i h n).1 ∧ (belX bs i h n).1 < n := by
 have h1 := curB_ok bs i h
 have h2 := curB_ok bs (curB bs i h).2.1 (curB bs i h).2.2
 have h3 := curB_ok bs (quadX bs i h).2.1 (quadX bs i h).2.2
 have h4 := curB_ok bs (curB bs (quadX bs i h).2.1 (quadX bs i h).2.2).2.1 (curB bs (quadX bs i h).2.1 (quadX bs i h).2.2).2.2
 have h5 : 0 ≤ (quadX bs i h).1 := by unfold quadX; simp only; omega
 exact ⟨Int.tmod_nonneg n (by omega), Int.tmod_lt_of_pos _ hn⟩
theorem belX_cu {bs : List Int} {i : Int} (c : CuOk bs i) (h n : Int) : CuOk bs (belX bs i h n).2.1 := curB_cu (curB_cu (curB_cu (curB_cu c h) _) _) _
def schN (bs : List Int) (i h m : Int) : Nat → List Int × Int × Int
 | 0 => ([], i, h)
 | n + 1 => ((schN bs i h m n).1 ++ [(bel bs (schN bs i h m n).2.1 (schN bs i h m n).2.2 m).1], (bel bs (schN bs i h m n).2.1 (schN bs i h m n).2.2 m).2)
theorem schN_len (bs : List Int) (i h m : Int) : ∀ n, (schN bs i h m n).1.length = n
 | 0 => rfl
 | n + 1 => by simp [schN, schN_len bs i h m n]
theorem schN_cu {bs : List Int} {i : Int} (c : CuOk bs i) (h m : Int) : ∀ n, CuOk bs (schN bs i h m n).2.1
 | 0 => c
 | n + 1 => bel_cu (schN_cu c h m n) _ _
def mkSched (bs : List Int) (m : Int) : List Int := (schN bs (belX bs 0 (newH bs (min bs.length 4000)) 500).2.1 (belX bs 0 (newH bs (min bs.length 4000)) 500).2.2 m (belX bs 0 (newH bs (min bs.length 4000)) 500).1.toNat).1
def schedF (ps : List PG) (ks : List LK) : List Int → SX → Nat → SX × Nat
 | [], s, n => (s, n)
 | k :: l, s, n => if (hasP ps k && canS ps ks s k.toNat) = true then schedF ps ks l (nextS ps ks s k.toNat) (n + 1) else schedF ps ks l s n
section
variable {ps : List PG} {ks : List LK} {s u : SX} {n : Nat} {R : SX × Nat}
theorem sched_run : ∀ (l : List Int) (s : SX) (n : Nat), ∃ m, RunS ps ks s m (schedF ps ks l s n).1 ∧ (schedF ps ks l s n).2 = n + m
 | [], s, n => ⟨0, .nil _, rfl⟩
 | k :: l, s, n => by
  unfold schedF
  split
  ·rename_i h
   rw [Bool.and_eq_true] at h
   obtain ⟨m, h1, h2⟩ := sched_run l (nextS ps ks s k.toNat) (n + 1)
   exact ⟨m + 1, .cons (hasP_lt h.1) h.2 h1, by rw [h2]; omega⟩
  ·exact sched_run l s n
theorem sched_yes {l : List Int} {i : Nat} (hi : i < l.length) (hp : hasP ps (l.getD i default) = true) (hc : canS ps ks s (l.getD i default).toNat = true) (h : schedF ps ks (l.drop i) s n = R) : schedF ps ks (l.drop (i + 1)) (nextS ps ks s (l.getD i default).toNat) (n + 1) = R := by
 rw [List.drop_eq_getElem_cons hi, schedF] at h
 rw [show l[i] = l.getD i default by simp [List.getD_eq_getElem?_getD, hi], hp, hc, if_pos (by rfl)] at h
 exact h
theorem sched_no {l : List Int} {i : Nat} (hi : i < l.length) (hp : (hasP ps (l.getD i default) && canS ps ks s (l.getD i default).toNat) = false) (h : schedF ps ks (l.drop i) s n = R) : schedF ps ks (l.drop (i + 1)) s n = R := by
 rw [List.drop_eq_getElem_cons hi, schedF] at h
 rw [show l[i] = l.getD i default by simp [List.getD_eq_getElem?_getD, hi], hp, if_neg (by simp)] at h
 exact h
end
end Go.Proofs.Ytimgfinlbhodhaa.Ab
