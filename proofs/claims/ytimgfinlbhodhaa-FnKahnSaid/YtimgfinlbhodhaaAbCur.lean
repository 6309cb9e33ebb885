/- A cursor over bytes: what it answers, in plain definitions. -/
import Derived.Test.YtimgfinlbhodhaaAbTok
namespace Go.Proofs.Ytimgfinlbhodhaa.Ab
open Go
set_option linter.unusedVariables false
set_option linter.unusedSimpArgs false
def andI (a b : Int) : Int := IntKind.i64.wrap ((BitVec.ofInt IntKind.i64.bits a &&& BitVec.ofInt IntKind.i64.bits b).toNat : Nat)
def xorI (a b : Int) : Int := IntKind.i64.wrap ((BitVec.ofInt IntKind.i64.bits a ^^^ BitVec.ofInt IntKind.i64.bits b).toNat : Nat)
theorem andI_eq (a b : Int) : IntKind.i64.wrap ((BitVec.ofInt IntKind.i64.bits a &&& BitVec.ofInt IntKind.i64.bits b).toNat : Nat) = andI a b := rfl
theorem xorI_eq (a b : Int) : IntKind.i64.wrap ((BitVec.ofInt IntKind.i64.bits a ^^^ BitVec.ofInt IntKind.i64.bits b).toNat : Nat) = xorI a b := rfl
theorem and255 (a : Int) : 0 ≤ andI a 255 ∧ andI a 255 ≤ 255 := by
 have h : (BitVec.ofInt IntKind.i64.bits a &&& BitVec.ofInt IntKind.i64.bits 255).toNat ≤ 255 := by
  rw [BitVec.toNat_and]
  have e : (BitVec.ofInt IntKind.i64.bits 255).toNat = 255 := by decide
  rw [e]; exact Nat.and_le_right
 unfold andI
 rw [wrap64 (by omega) (by omega)]
 omega
def mixH (h : Int) : Int := IntKind.i64.wrap (IntKind.i64.wrap (h * 6364136223846793005) + 1442695040888963407)
def mixX (h : Int) : Int := andI (xorI (h.fdiv (2 ^ 33)) (h.fdiv (2 ^ 45))) 255
def newH (bs : List Int) : Nat → Int
 | 0 => IntKind.i64.wrap (3224 + (bs.length : Int))
 | j + 1 => andI (IntKind.i64.wrap (IntKind.i64.wrap (IntKind.i64.wrap (newH bs j * 1103) + bs.getD j default) + 7)) 1073741823
def curB (bs : List Int) (i h : Int) : Int × Int × Int :=
 if i < (bs.length : Int) then (andI (IntKind.i64.wrap (mixX (mixH h) + bs.getD i.toNat default)) 255, i + 1, mixH h) else (mixX (mixH h), i, mixH h)
theorem curB_in {bs : List Int} {i h : Int} (h1 : i < (bs.length : Int)) (hk : i.toNat < bs.length) : curB bs i h = (andI (IntKind.i64.wrap (mixX (mixH h) + bs[i.toNat])) 255, i + 1, mixH h) := by
 unfold curB
 rw [if_pos h1, List.getD_eq_getElem?_getD, List.getElem?_eq_getElem hk]
 rfl
theorem curB_out {bs : List Int} {i h : Int} (h1 : ¬ i < (bs.length : Int)) : curB bs i h = (mixX (mixH h), i, mixH h) := if_neg h1
structure CuOk (bs : List Int) (i : Int) : Prop where
 w : BW bs
 l : bs.length < 1099511627776
 i0 : 0 ≤ i
 i1 : i ≤ (bs.length : Int)
theorem curB_ok (bs : List Int) (i h : Int) : 0 ≤ (curB bs i h).1 ∧ (curB bs i h).1 ≤ 255 := by
 unfold curB
 split
 ·exact and255 _
 ·exact and255 _
theorem curB_cu {bs : List Int} {i : Int} (c : CuOk bs i) (h : Int) : CuOk bs (curB bs i h).2.1 := by
 unfold curB
 have := c.i0
 have := c.i1
 split
 ·exact ⟨c.w, c.l, by simp only; omega, by simp only; omega⟩
 ·exact c
def bel (bs : List Int) (i h n : Int) : Int × Int × Int := if n ≤ 0 then (0, i, h) else ((curB bs i h).1.tmod n, (curB bs i h).2)
theorem bel_neg {bs : List Int} {i h n : Int} (hn : n ≤ 0) : bel bs i h n = (0, i, h) := if_pos hn
theorem bel_pos {bs : List Int} {i h n : Int} (hn : 0 < n) : bel bs i h n = ((curB bs i h).1.tmod n, (curB bs i h).2) := if_neg (by omega)
theorem bel_cu {bs : List Int} {i : Int} (c : CuOk bs i) (h n : Int) : CuOk bs (bel bs i h n).2.1 := by
 unfold bel
 split
 ·exact c
 ·exact curB_cu c h
theorem bel_ok (bs : List Int) (i h : Int) {n : Int} (hn : 0 < n) : 0 ≤ (bel bs i h n).1 ∧ (bel bs i h n).1 < n := by
 unfold bel
 rw [if_neg (by omega)]
 have h1 := curB_ok bs i h
 have h2 := tmod_lt (curB bs i h).1 n hn
 have h3 : 0 ≤ (curB bs i h).1.tmod n := Int.tmod_nonneg _ h1.1
 exact ⟨h3, h2.2⟩
def someT (bs : List Int) (i h : Int) : Int × Int × Int :=
 let r := bel bs i h 9
 if r.1 = 0 then
  let s := bel bs r.2.1 r.2.2 5
  ([999999, -999999, 999998, 500000, -500000].getD s.1.toNat default, s.2)
 else
  let s := bel bs r.2.1 r.2.2 15
  (s.1 - 5, s.2)
theorem someT_y {bs : List Int} {i h : Int} (h0 : (bel bs i h 9).1 = 0) : someT bs i h = ([999999, -999999, 999998, 500000, -500000].getD (bel bs (bel bs i h 9).2.1 (bel bs i h 9).2.2 5).1.toNat default, (bel bs (bel bs i h 9).2.1 (bel bs i h 9).2.2 5).2) := by
 unfold someT
 simp only
 rw [if_pos h0]
theorem someT_n {bs : List Int} {i h : Int} (h0 : ¬ (bel bs i h 9).1 = 0) : someT bs i h = ((bel bs (bel bs i h 9).2.1 (bel bs i h 9).2.2 15).1 - 5, (bel bs (bel bs i h 9).2.1 (bel bs i h 9).2.2 15).2) := by
 unfold someT
 simp only
 rw [if_neg h0]
theorem someT_cu {bs : List Int} {i : Int} (c : CuOk bs i) (h : Int) : CuOk bs (someT bs i h).2.1 := by
 unfold someT
 simp only
 split
 ·exact bel_cu (bel_cu c _ _) _ _
 ·exact bel_cu (bel_cu c _ _) _ _
def toksN (bs : List Int) (i h : Int) : Nat → List Int × Int × Int
 | 0 => ([], i, h)
 | n + 1 => ((toksN bs i h n).1 ++ [(someT bs (toksN bs i h n).2.1 (toksN bs i h n).2.2).1], (someT bs (toksN bs i h n).2.1 (toksN bs i h n).2.2).2)
theorem toksN_cu {bs : List Int} {i : Int} (c : CuOk bs i) (h : Int) : ∀ n, CuOk bs (toksN bs i h n).2.1
 | 0 => c
 | n + 1 => someT_cu (toksN_cu c h n) _
theorem toksN_len (bs : List Int) (i h : Int) : ∀ n, (toksN bs i h n).1.length = n
 | 0 => rfl
 | n + 1 => by simp [toksN, toksN_len bs i h n]
def tokS (bs : List Int) (i h m : Int) : List Int × Int × Int :=
 toksN bs (bel bs i h (m + 1)).2.1 (bel bs i h (m + 1)).2.2 (bel bs i h (m + 1)).1.toNat
end Go.Proofs.Ytimgfinlbhodhaa.Ab
