/- Walks of functions. -/
import Derived.Test.YtimgfinlbhodhaaAbCat
namespace Go.Proofs.Ytimgfinlbhodhaa.Ab
open Go
set_option linter.unusedVariables false
set_option linter.unusedSimpArgs false
set_option maxHeartbeats 4000000
theorem growP_ac (n : Nat) (hc1 : n ≤ 1099511627776) : AC Try.prog 169 [.nils, .int .i64 (n : Int)] (.row true 3 []) := by
 have hn0 : ¬ ((n : Int) < 0) := by omega
 have hz : IntKind.i64.wrap 0 = 0 := wrap64 (by omega) (by omega)
 have hz2 : IntKind.i64.wrap ((n : Int) - 0) = (n : Int) := by rw [Int.sub_zero]; exact wrap64 (by omega) (by omega)
 have hz3 : (0 : Int) - 0 = 0 := rfl
 refine AC.of tab_ok Try.func169 rfl (Nat.le_of_ble_eq_true rfl) fun w0 S0 => ?_
 change G _ _ ⟨[(0, .nils), (1, .int .i64 (n : Int))], [], 27⟩
 apply G.seq
 refine G.rg tab_ok (kof_nil _) (hk := ?_)
 apply G.seq
 apply G.seq
 refine G.rg tab_ok (kof_nil _) (hk := ?_)
 refine G.iffF (h2 := ?_)
 apply G.skip
 apply G.seq
 apply G.seq
 refine G.rgN 2 tab_ok (kof_nil _) (hk := ?_)
 refine G.capNil tab_ok rfl rfl rfl rfl rfl ?_
 refine G.rgC tab_ok (kof_nil _) (hk := ?_)
 apply G.seq
 refine G.rg tab_ok (kof_nil _) (hk := ?_)
 refine G.fg [0, 1, 16] (hk := ?_)
 refine G.iff (h1 := fun h2 => ?_) (h2 := fun h2 => ?_)
 ·try simp only [zqz] at h2
  refine G.rgN 2 tab_ok (kof_nil _) (hk := ?_)
  refine G.capNil tab_ok rfl rfl rfl rfl rfl ?_
  refine G.cutNil tab_ok rfl rfl rfl rfl rfl rfl rfl ?_
  refine G.rdN 1 tab_ok (kof_nil _) (hk := ?_)
  refine G.growNil (m := n) tab_ok rfl rfl rfl rfl rfl rfl rfl (by omega) (wrap64 (by omega) (by omega)) (by omega) (by show n * 40 ≤ _; omega) rfl ?_
  refine G.rgC tab_ok (kof_nil _) (hk := ?_)
  apply G.seq
  refine G.rg tab_ok (kof_nil _) (hk := ?_)
  refine G.fin tab_ok (hr := ?_)
  rfl
 ·try simp only [zqz] at h2
  apply G.skip
  apply G.seq
  refine G.rg tab_ok (kof_nil _) (hk := ?_)
  refine G.nilRow 4 3 rfl ?_
  refine G.fin tab_ok (hr := ?_)
  rfl
def r_growP (xs0 : List A) (rr : A) : Prop := ∃ (n : Nat), (n ≤ 1099511627776) ∧ xs0 = [.nils, .int .i64 (n : Int)] ∧ rr = .row true 3 []
noncomputable def q_growP : List A → Option A := kgr r_growP
theorem k_growP : KOk Try.prog (169, q_growP) := kgr_ok (enters_of Try.func169 rfl rfl) (by rintro xs0 rr ⟨n, hc1, rfl, rfl⟩; exact growP_ac n hc1)
theorem e_growP : ∀ (n : Nat), (n ≤ 1099511627776) → q_growP [.nils, .int .i64 (n : Int)] = some (.row true 3 []) := by
 intro n hc1
 refine kgr_eq (fun xs0 rr r2 h h2 => ?_) ⟨n, hc1, rfl, rfl⟩
 obtain ⟨n1, _, e1, rfl⟩ := h; obtain ⟨n2, _, e2, rfl⟩ := h2
 rw [e1] at e2
 skip
theorem ok_concatP : Kn.ok Try.prog (kof [(169, q_growP)]) := kof_cons k_growP ((kof_nil _))
theorem concatP_ac (ls : List (List PG)) (hc1 : ls.length ≤ 8) (hc2 : ls.flatten.length ≤ 1099511627776) : AC Try.prog 110 [.row false 1 (ls.map ppv)] (.row true 3 (ls.flatten.map pv)) := by
 have e_growP := e_growP
 have hfe := ppv_eq
 have hcp : ∀ l : List PG, (l.map pv).all (fun y => y.all copyable) = true := fun l => by rw [List.all_map, List.all_eq_true]; exact fun x _ => rfl
 refine AC.of tab_ok Try.func110 rfl (Nat.le_of_ble_eq_true rfl) fun w0 S0 => ?_
 change G _ _ ⟨[(0, .row false 1 (ls.map ppv))], [], 36⟩
 apply G.seq
 refine G.rg tab_ok ok_concatP (hk := ?_)
 apply G.seq
 refine G.rg tab_ok ok_concatP (hk := ?_)
 apply G.seq
 apply G.seq
 refine G.rg tab_ok ok_concatP (hk := ?_)
 apply G.block
 refine G.cn [0, 3, 9, 10, 11] [] (h := ?_)
 refine G.loopX (fun j : Nat => ⟨[(0, .row false 1 (ls.map ppv)), (3, .int .i64 (flT ls j).length), (9, .row false 1 (ls.map ppv)), (10, .int .i64 ls.length), (11, .int .i64 j)], [], 36⟩) (fun j => j ≤ ls.length) (fun j => ls.length - j) (0) (Nat.zero_le _) (by simp [flT_zero]) ?_
 intro j hj J hJ
 have hw : IntKind.i64.wrap ((j : Int) + 1) = (j : Int) + 1 := wrap64 (by omega) (by omega)
 have hl1 := flT_le (ls := ls) j
 apply G.seq
 refine G.rg tab_ok ok_concatP (hk := ?_)
 apply G.seq
 refine G.iff (h1 := fun h1 => ?_) (h2 := fun h1 => ?_)
 ·try simp only [zqz] at h1
  apply G.skip
  apply G.seq
  apply G.block
  apply G.seq
  have hjl : j < ls.length := by omega
  have hr1 := flT_row (ls := ls) hjl
  have hl2 := flT_le (ls := ls) (j + 1)
  have hr2 : ((flT ls j).length : Int) + ((ls.getD j default).length : Int) = ((flT ls (j + 1)).length : Int) := by omega
  have hr3 : IntKind.i64.wrap ((flT ls (j + 1)).length : Int) = ((flT ls (j + 1)).length : Int) := wrap64 (by omega) (by omega)
  have hr4 : ¬ (((flT ls (j + 1)).length : Int) < 0) := by omega
  clear hr1
  refine G.rg tab_ok ok_concatP (hk := ?_)
  apply G.seq
  refine G.rg tab_ok ok_concatP (hk := ?_)
  apply G.seq
  refine G.rg tab_ok ok_concatP (hk := ?_)
  refine G.fg [0, 3, 9, 10, 11, 20] (hk := ?_)
  refine G.iffF (h2 := ?_)
  apply G.skip
  apply G.blk
  refine G.rg tab_ok ok_concatP (hk := ?_)
  refine G.cn [0, 3, 9, 10, 11] [] (h := ?_)
  exact G.upto (hJ (j + 1) (by omega) (by omega)) (by simp)
 ·try simp only [zqz] at h1
  refine G.exit rfl ?_
  apply G.seq
  have hl5 : (flT ls j).length ≤ 1099511627776 := by omega
  refine G.rg tab_ok ok_concatP (hk := ?_)
  apply G.seq
  apply G.seq
  refine G.rg tab_ok ok_concatP (hk := ?_)
  apply G.block
  obtain rfl : j = ls.length := by omega
  clear hJ hj
  refine G.nm [6, 25, 26, 27] (h := ?_)
  refine G.loopX (fun j : Nat => ⟨[(6, .sl 0 0 (flT ls j).length), (25, .row false 1 (ls.map ppv)), (26, .int .i64 ls.length), (27, .int .i64 j)], [some (3, (flT ls j).map pv)], 36⟩) (fun j => j ≤ ls.length) (fun j => ls.length - j) (0) (Nat.zero_le _) (by simp [flT_zero]) ?_
  intro j hj J hJ
  have hw : IntKind.i64.wrap ((j : Int) + 1) = (j : Int) + 1 := wrap64 (by omega) (by omega)
  have hl1 := flT_le (ls := ls) j
  have hlt : List.take (flT ls j).length ((flT ls j).map pv) = (flT ls j).map pv := List.take_of_length_le (by simp)
  apply G.seq
  refine G.rg tab_ok ok_concatP (hk := ?_)
  apply G.seq
  refine G.iff (h1 := fun h3 => ?_) (h2 := fun h3 => ?_)
  ·try simp only [zqz] at h3
   apply G.skip
   apply G.seq
   apply G.block
   apply G.seq
   have hjl : j < ls.length := by omega
   have hr1 := flT_row (ls := ls) hjl
   have hl2 := flT_le (ls := ls) (j + 1)
   have hap : List.map pv (flT ls j) ++ List.map pv (ls.getD j default) = List.map pv (flT ls (j + 1)) := by rw [flT_succ hjl, List.map_append]
   have hb1 : (((flT ls (j + 1)).length : Nat) : Int) ≤ 4611686018427387904 := by omega
   have hb2 : (flT ls (j + 1)).length * 40 ≤ 70368744177664 := by omega
   refine G.rg tab_ok ok_concatP (hk := ?_)
   refine G.rg tab_ok ok_concatP (hk := ?_)
   apply G.blk
   refine G.rg tab_ok ok_concatP (hk := ?_)
   refine G.nm [6, 25, 26, 27] (h := ?_)
   exact G.upto (hJ (j + 1) (by omega) (by omega)) (by simp)
  ·try simp only [zqz] at h3
   refine G.exit rfl ?_
   apply G.seq
   refine G.rg tab_ok ok_concatP (hk := ?_)
   obtain rfl : j = ls.length := by omega
   refine G.fin tab_ok (hr := ?_)
   rw [flT_end]
   rfl
def r_concatP (xs0 : List A) (rr : A) : Prop := ∃ (ls : List (List PG)), (ls.length ≤ 8) ∧ (ls.flatten.length ≤ 1099511627776) ∧ xs0 = [.row false 1 (ls.map ppv)] ∧ rr = .row true 3 (ls.flatten.map pv)
noncomputable def q_concatP : List A → Option A := kgr r_concatP
theorem k_concatP : KOk Try.prog (110, q_concatP) := kgr_ok (enters_of Try.func110 rfl rfl) (by rintro xs0 rr ⟨ls, hc1, hc2, rfl, rfl⟩; exact concatP_ac ls hc1 hc2)
theorem e_concatP : ∀ (ls : List (List PG)), (ls.length ≤ 8) → (ls.flatten.length ≤ 1099511627776) → q_concatP [.row false 1 (ls.map ppv)] = some (.row true 3 (ls.flatten.map pv)) := by
 intro ls hc1 hc2
 refine kgr_eq (fun xs0 rr r2 h h2 => ?_) ⟨ls, hc1, hc2, rfl, rfl⟩
 obtain ⟨ls1, _, _, e1, rfl⟩ := h; obtain ⟨ls2, _, _, e2, rfl⟩ := h2
 rw [e1] at e2
 simp only [List.cons.injEq, A.row.injEq, ppv_inj, true_and, and_true] at e2
 subst e2
 rfl
end Go.Proofs.Ytimgfinlbhodhaa.Ab
