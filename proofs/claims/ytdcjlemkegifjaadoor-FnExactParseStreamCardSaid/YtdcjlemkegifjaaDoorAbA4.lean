/- Walks of functions. -/
import Derived.Test.YtdcjlemkegifjaaDoorAbA3
import Derived.Test.YtdcjlemkegifjaaDoorAbA2
namespace Go.Proofs.YtdcjlemkegifjaaDoor.Ab
open Go
set_option linter.unusedVariables false
set_option linter.unusedSimpArgs false
set_option maxHeartbeats 4000000
theorem en_markIntS : Enters Tryd.prog 11 := enters_of Tryd.func11 rfl rfl
def heldI (n : Int) (rs : List Int) : Int := if rs = mkI n rs.length then n + rs.length else -1
theorem mkI_get {n : Int} {k j : Nat} (h : j < k) : (mkI n k).getD j default = n + j := by simp [mkI, h]
theorem heldI_no {n : Int} {rs : List Int} {j : Nat} (hj : j < rs.length) (h : rs.getD j default ≠ n + j) : heldI n rs = -1 := by
 unfold heldI
 rw [if_neg]
 intro e
 apply h
 have := mkI_get (n := n) hj
 rw [← e] at this
 exact this
theorem heldI_yes {n : Int} {rs : List Int} (h : ∀ j < rs.length, rs.getD j default = n + (j : Int)) : heldI n rs = n + rs.length := by
 unfold heldI
 rw [if_pos]
 apply List.ext_getElem (by rw [mkI_len])
 intro j h1 h2
 have := h j h1
 have e := mkI_get (n := n) h1
 simp only [List.getD_eq_getElem?_getD, List.getElem?_eq_getElem h1, List.getElem?_eq_getElem h2, Option.getD_some] at this e
 rw [this, e]
theorem held_upto {rs : List Int} {n : Int} {i : Nat} (h : ∀ j < i, rs.getD j default = n + (j : Int)) (h2 : rs.getD i default = n + (i : Int)) : ∀ j < i + 1, rs.getD j default = n + (j : Int) := by
 intro j hj
 by_cases e : j = i
 ·rw [e]; exact h2
 ·exact h j (by omega)
theorem heldIntS_ac (rs : List Int) (n : Int) (hc1 : 0 ≤ n) (hc2 : n ≤ 1099511627776) (hc3 : rs.length < 1099511627776) : AC Tryd.prog 12 [.row false 1 (rs.map iv), .int .i64 n] (.int .i64 (heldI n rs)) := by
 refine AC.of tab_ok Tryd.func12 rfl (Nat.le_of_ble_eq_true rfl) fun w0 S0 => ?_
 change G _ _ ⟨[(0, .row false 1 (rs.map iv)), (1, .int .i64 n)], [], 21⟩
 apply G.seq
 refine G.rg tab_ok (kof_nil _) (hk := ?_)
 apply G.seq
 apply G.seq
 refine G.rg tab_ok (kof_nil _) (hk := ?_)
 apply G.block
 refine G.cn [0, 1, 5] [] (h := ?_)
 refine G.loopX (fun j : Nat => ⟨[(0, .row false 1 (rs.map iv)), (1, .int .i64 (n + j)), (5, .int .i64 j)], [], 21⟩) (fun j => j ≤ rs.length ∧ ∀ k < j, rs.getD k default = n + (k : Int)) (fun j => rs.length - j) (0) (⟨Nat.zero_le _, by omega⟩) (by simp) ?_
 intro j hj J hJ
 obtain ⟨hj, hall⟩ := hj
 have hw : IntKind.i64.wrap ((j : Int) + 1) = (j : Int) + 1 := wrap64 (by omega) (by omega)
 have hw2 : IntKind.i64.wrap (n + (j : Int) + 1) = n + (j : Int) + 1 := wrap64 (by omega) (by omega)
 apply G.seq
 apply G.seq
 refine G.rg tab_ok (kof_nil _) (hk := ?_)
 refine G.iff (h1 := fun h1 => ?_) (h2 := fun h1 => ?_)
 ·try simp only [zqz] at h1
  apply G.skip
  apply G.seq
  apply G.block
  apply G.seq
  apply G.seq
  refine G.rg tab_ok (kof_nil _) (hk := ?_)
  refine G.fg [0, 1, 5, 17] (hk := ?_)
  refine G.iff (h1 := fun h2 => ?_) (h2 := fun h2 => ?_)
  ·try simp only [zqz] at h2
   apply G.seq
   refine G.rg tab_ok (kof_nil _) (hk := ?_)
   refine G.fin tab_ok (hr := ?_)
   simp only [oneOrTup]
   congr 1
   exact (heldI_no h1 h2).symm
  ·try simp only [zqz] at h2
   apply G.skip
   refine G.rg tab_ok (kof_nil _) (hk := ?_)
   apply G.blk
   refine G.rg tab_ok (kof_nil _) (hk := ?_)
   refine G.cn [0, 1, 5] [] (h := ?_)
   exact G.upto (hJ (j + 1) ⟨by omega, held_upto hall h2⟩ (by omega)) (by simp [Int.add_assoc])
 ·try simp only [zqz] at h1
  refine G.exit rfl ?_
  apply G.seq
  refine G.rg tab_ok (kof_nil _) (hk := ?_)
  obtain rfl : j = rs.length := by omega
  refine G.fin tab_ok (hr := ?_)
  simp only [oneOrTup]
  congr 1
  exact (heldI_yes hall).symm
def r_heldIntS (xs0 : List A) (rr : A) : Prop := ∃ (rs : List Int) (n : Int), (0 ≤ n) ∧ (n ≤ 1099511627776) ∧ (rs.length < 1099511627776) ∧ xs0 = [.row false 1 (rs.map iv), .int .i64 n] ∧ rr = .int .i64 (heldI n rs)
noncomputable def q_heldIntS : List A → Option A := kgr r_heldIntS
theorem k_heldIntS : KOk Tryd.prog (12, q_heldIntS) := kgr_ok (enters_of Tryd.func12 rfl rfl) (by rintro xs0 rr ⟨rs, n, hc1, hc2, hc3, rfl, rfl⟩; exact heldIntS_ac rs n hc1 hc2 hc3)
theorem e_heldIntS : ∀ (rs : List Int) (n : Int), (0 ≤ n) → (n ≤ 1099511627776) → (rs.length < 1099511627776) → q_heldIntS [.row false 1 (rs.map iv), .int .i64 n] = some (.int .i64 (heldI n rs)) := by
 intro rs n hc1 hc2 hc3
 refine kgr_eq (fun xs0 rr r2 h h2 => ?_) ⟨rs, n, hc1, hc2, hc3, rfl, rfl⟩
 obtain ⟨rs1, n1, _, _, _, e1, rfl⟩ := h; obtain ⟨rs2, n2, _, _, _, e2, rfl⟩ := h2
 rw [e1] at e2
 simp only [List.cons.injEq, A.int.injEq, A.bool.injEq, A.agg.injEq, A.row.injEq, A.fn.injEq, A.rp.injEq, insv_inj, iv_inj, true_and, and_true] at e2
 simp [e2]
end Go.Proofs.YtdcjlemkegifjaaDoor.Ab
