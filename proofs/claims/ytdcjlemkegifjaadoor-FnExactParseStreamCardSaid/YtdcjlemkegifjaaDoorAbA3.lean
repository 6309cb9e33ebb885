/- Walks of functions. -/
import Derived.Test.YtdcjlemkegifjaaDoorAbA1
namespace Go.Proofs.YtdcjlemkegifjaaDoor.Ab
open Go
set_option linter.unusedVariables false
set_option linter.unusedSimpArgs false
set_option maxHeartbeats 4000000
theorem set_self {h : Heap} {m : Nat} {x : Option Blk} (hm : h[m]? = some x) (b : Option Blk) : (h.set m b)[m]? = some b := List.getElem?_set_self (List.getElem?_eq_some_iff.1 hm).1
theorem set_same {h : Heap} {m : Nat} {x : Option Blk} (hm : h[m]? = some x) : h.set m x = h := by
 obtain ⟨hl, e⟩ := List.getElem?_eq_some_iff.1 hm
 rw [← e]; exact List.set_getElem_self hl
def mkI (n : Int) (k : Nat) : List Int := (List.range k).map fun (j : Nat) => n + (j : Int)
def upI (n : Int) (rs : List Int) (j : Nat) : List Int := mkI n j ++ rs.drop j
theorem mkI_len (n : Int) (k : Nat) : (mkI n k).length = k := by simp [mkI]
theorem upI_zero (n : Int) (rs : List Int) : upI n rs 0 = rs := by simp [upI, mkI]
theorem upI_full (n : Int) (rs : List Int) : upI n rs rs.length = mkI n rs.length := by simp [upI]
theorem upI_get (n : Int) {rs : List Int} {j : Nat} (h : j < rs.length) : ((upI n rs j).map iv)[j]? = some [.int .i64 (rs.getD j default)] := by
 unfold upI
 rw [List.getElem?_map, List.getElem?_append_right (by rw [mkI_len]; omega), mkI_len]
 simp [iv, h]
theorem upI_set (n : Int) {rs : List Int} {j : Nat} (h : j < rs.length) : ((upI n rs j).map iv).set j [.int .i64 (n + j)] = (upI n rs (j + 1)).map iv := by
 have e : [A.int .i64 (n + (j : Int))] = iv (n + j) := rfl
 rw [e, ← List.map_set]
 congr 1
 unfold upI
 rw [List.set_append_right _ _ (by rw [mkI_len]; omega), mkI_len, Nat.sub_self, List.drop_eq_getElem_cons h, List.set_cons_zero]
 simp [mkI, List.range_succ]
theorem markIntS_mc (h : Heap) (m : Nat) (rs : List Int) (n : Int) (hc1 : h[m]? = some (some (1, rs.map iv))) (hc2 : 0 ≤ n) (hc3 : n ≤ 1099511627776) (hc4 : rs.length < 1099511627776) : MC Tryd.prog 11 h [.sl m 0 rs.length, .int .i64 n] (.int .i64 (n + rs.length)) (h.set m (some (1, (mkI n rs.length).map iv))) := by
 have hself : ∀ b, (h.set m b)[m]? = some b := set_self hc1
 have hss : ∀ b b2, (h.set m b).set m b2 = h.set m b2 := fun b b2 => List.set_set ..
 have hlen : ∀ b, (h.set m b).length = h.length := fun b => List.length_set
 refine MC.of tab_ok Tryd.func11 rfl (Nat.le_of_ble_eq_true rfl) fun w0 S0 fs0 φ0 hφ0 hq0 => ?_
 change G _ _ ⟨[(0, .sl m 0 rs.length), (1, .int .i64 n)], _, 19⟩
 apply G.seq
 refine G.rg tab_ok (kof_nil _) (hk := ?_)
 apply G.seq
 apply G.seq
 refine G.rg tab_ok (kof_nil _) (hk := ?_)
 apply G.block
 refine G.fg [0, 1, 5] (hk := ?_)
 refine G.loopX (fun j : Nat => ⟨[(0, .sl m 0 rs.length), (1, .int .i64 (n + j)), (5, .int .i64 j)], h.set m (some (1, (upI n rs j).map iv)), 19⟩) (fun j => j ≤ rs.length) (fun j => rs.length - j) (0) (Nat.zero_le _) (by simp [upI_zero, set_same hc1]) ?_
 intro j hj J hJ
 have hw : IntKind.i64.wrap ((j : Int) + 1) = (j : Int) + 1 := wrap64 (by omega) (by omega)
 have hw2 : IntKind.i64.wrap (n + (j : Int) + 1) = n + (j : Int) + 1 := wrap64 (by omega) (by omega)
 apply G.seq
 apply G.seq
 refine G.rg tab_ok (kof_nil _) (hk := ?_)
 refine G.iff (h1 := fun h1 => ?_) (h2 := fun h1 => ?_)
 ·try simp only [zqz] at h1
  apply G.skip
  apply G.seq
  apply G.block
  apply G.seq
  have hg := upI_get n h1
  have hs := upI_set n h1
  refine G.rg tab_ok (kof_nil _) (hk := ?_)
  refine G.rg tab_ok (kof_nil _) (hk := ?_)
  apply G.blk
  refine G.rg tab_ok (kof_nil _) (hk := ?_)
  refine G.fg [0, 1, 5] (hk := ?_)
  exact G.upto (hJ (j + 1) (by omega) (by omega)) (by simp [Int.add_assoc])
 ·try simp only [zqz] at h1
  refine G.exit rfl ?_
  apply G.seq
  refine G.rg tab_ok (kof_nil _) (hk := ?_)
  obtain rfl : j = rs.length := by omega
  rw [upI_full]
  refine G.finM (junk := []) tab_ok (hr := ?_) (hh := ?_) (hq := ?_) (hl := ?_)
  ·rfl
  ·simp
  ·rw [List.length_set]; exact hrefs_pure hq0 (pureLL_iv _)
  ·rw [List.length_set, hφ0]; exact Nat.le_refl _
end Go.Proofs.YtdcjlemkegifjaaDoor.Ab
