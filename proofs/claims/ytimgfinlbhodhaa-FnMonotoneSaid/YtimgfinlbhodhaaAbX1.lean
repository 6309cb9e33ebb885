/- Walks of functions of the program: what each answers, for all arguments that meet its conditions. -/
import Derived.Test.YtimgfinlbhodhaaAbCat
import Derived.Test.YtimgfinlbhodhaaFwB
import Derived.Test.YtimgfinlbhodhaaFwGa
namespace Go.Proofs.Ytimgfinlbhodhaa.Ab
open Go
set_option linter.unusedVariables false
set_option linter.unusedSimpArgs false
set_option maxHeartbeats 4000000
theorem growInt_ac (n : Nat) (hc1 : n ≤ 1099511627776) : AC Try.prog 182 [.nils, .int .i64 (n : Int)] (.row true 1 []) := by
  have hn0 : ¬ ((n : Int) < 0) := by omega
  have hz : IntKind.i64.wrap 0 = 0 := wrap64 (by omega) (by omega)
  have hz2 : IntKind.i64.wrap ((n : Int) - 0) = (n : Int) := by rw [Int.sub_zero]; exact wrap64 (by omega) (by omega)
  have hz3 : (0 : Int) - 0 = 0 := rfl
  refine AC.of tab_ok Try.func182 rfl (Nat.le_of_ble_eq_true rfl) fun w0 S0 => ?_
  change G _ _ ⟨[(0, .nils), (1, .int .i64 (n : Int))], [], 27⟩
  apply G.seq
  refine G.rg tab_ok (kof_nil _) (hk := ?_)
  apply G.seq
  apply G.seq
  refine G.rg tab_ok (kof_nil _) (hk := ?_)
  refine G.iffF (h2 := ?_)
  apply G.skip
  apply G.seq
  apply G.seq
  refine G.rgN 2 tab_ok (kof_nil _) (hk := ?_)
  refine G.capNil tab_ok rfl rfl rfl rfl rfl ?_
  refine G.rgC tab_ok (kof_nil _) (hk := ?_)
  apply G.seq
  refine G.rg tab_ok (kof_nil _) (hk := ?_)
  refine G.fg [0, 1, 16] (hk := ?_)
  refine G.iff (h1 := fun h2 => ?_) (h2 := fun h2 => ?_)
  · try simp only [zz, bne_iff_ne, beq_iff_eq, bne_eq_false_iff_eq, beq_eq_false_iff_ne, ne_eq, gt_iff_lt, ge_iff_le] at h2
    refine G.rgN 2 tab_ok (kof_nil _) (hk := ?_)
    refine G.capNil tab_ok rfl rfl rfl rfl rfl ?_
    refine G.cutNil tab_ok rfl rfl rfl rfl rfl rfl rfl ?_
    refine G.rdN 1 tab_ok (kof_nil _) (hk := ?_)
    refine G.growNil (m := n) tab_ok rfl rfl rfl rfl rfl rfl rfl (by omega) (wrap64 (by omega) (by omega)) (by omega) (by show n * 8 ≤ _; omega) rfl ?_
    refine G.rgC tab_ok (kof_nil _) (hk := ?_)
    apply G.seq
    refine G.rg tab_ok (kof_nil _) (hk := ?_)
    refine G.fin tab_ok (hr := ?_)
    rfl
  · try simp only [zz, bne_iff_ne, beq_iff_eq, bne_eq_false_iff_eq, beq_eq_false_iff_ne, ne_eq, gt_iff_lt, ge_iff_le] at h2
    apply G.skip
    apply G.seq
    refine G.rg tab_ok (kof_nil _) (hk := ?_)
    refine G.nilRow 4 1 rfl ?_
    refine G.fin tab_ok (hr := ?_)
    rfl
def r_growInt (xs0 : List A) (rr : A) : Prop := ∃ (n : Nat), (n ≤ 1099511627776) ∧ xs0 = [.nils, .int .i64 (n : Int)] ∧ rr = .row true 1 []
noncomputable def q_growInt : List A → Option A := kgr r_growInt
theorem k_growInt : KOk Try.prog (182, q_growInt) := kgr_ok (enters_of Try.func182 rfl rfl) (by rintro xs0 rr ⟨n, hc1, rfl, rfl⟩; exact growInt_ac n hc1)
theorem e_growInt : ∀ (n : Nat), (n ≤ 1099511627776) → q_growInt [.nils, .int .i64 (n : Int)] = some (.row true 1 []) := by
  intro n hc1
  refine kgr_eq (fun xs0 rr r2 h h2 => ?_) ⟨n, hc1, rfl, rfl⟩
  obtain ⟨n1, _, e1, rfl⟩ := h; obtain ⟨n2, _, e2, rfl⟩ := h2
  rw [e1] at e2
  skip
theorem ok_concatInt : Kn.ok Try.prog (kof [(182, q_growInt)]) := kof_cons k_growInt ((kof_nil _))
theorem concatInt_ac (ls : List (List Int)) (hc1 : ls.length ≤ 8) (hc2 : ls.flatten.length ≤ 1099511627776) : AC Try.prog 134 [.row false 1 (ls.map ivL)] (.row true 1 (ls.flatten.map iv)) := by
  have e_growInt := e_growInt
  have hfe := ivL_eq
  have hcp : ∀ l : List Int, (l.map iv).all (fun y => y.all copyable) = true := fun l => by rw [List.all_map, List.all_eq_true]; exact fun x _ => rfl
  refine AC.of tab_ok Try.func134 rfl (Nat.le_of_ble_eq_true rfl) fun w0 S0 => ?_
  change G _ _ ⟨[(0, .row false 1 (ls.map ivL))], [], 36⟩
  apply G.seq
  refine G.rg tab_ok ok_concatInt (hk := ?_)
  apply G.seq
  refine G.rg tab_ok ok_concatInt (hk := ?_)
  apply G.seq
  apply G.seq
  refine G.rg tab_ok ok_concatInt (hk := ?_)
  apply G.block
  refine G.cn [0, 3, 9, 10, 11] [] (h := ?_)
  refine G.loopX (fun j : Nat => ⟨[(0, .row false 1 (ls.map ivL)), (3, .int .i64 (flT ls j).length), (9, .row false 1 (ls.map ivL)), (10, .int .i64 ls.length), (11, .int .i64 j)], [], 36⟩) (fun j => j ≤ ls.length) (fun j => ls.length - j) (0) (Nat.zero_le _) (by simp [flT_zero]) ?_
  intro j hj J hJ
  have hw : IntKind.i64.wrap ((j : Int) + 1) = (j : Int) + 1 := wrap64 (by omega) (by omega)
  have hl1 := flT_le (ls := ls) j
  apply G.seq
  refine G.rg tab_ok ok_concatInt (hk := ?_)
  apply G.seq
  refine G.iff (h1 := fun h1 => ?_) (h2 := fun h1 => ?_)
  · try simp only [zz, bne_iff_ne, beq_iff_eq, bne_eq_false_iff_eq, beq_eq_false_iff_ne, ne_eq, gt_iff_lt, ge_iff_le] at h1
    apply G.skip
    apply G.seq
    apply G.block
    apply G.seq
    have hjl : j < ls.length := by omega
    have hr1 := flT_row (ls := ls) hjl
    have hl2 := flT_le (ls := ls) (j + 1)
    have hr2 : ((flT ls j).length : Int) + ((ls.getD j default).length : Int) = ((flT ls (j + 1)).length : Int) := by omega
    have hr3 : IntKind.i64.wrap ((flT ls (j + 1)).length : Int) = ((flT ls (j + 1)).length : Int) := wrap64 (by omega) (by omega)
    have hr4 : ¬ (((flT ls (j + 1)).length : Int) < 0) := by omega
    clear hr1
    refine G.rg tab_ok ok_concatInt (hk := ?_)
    apply G.seq
    refine G.rg tab_ok ok_concatInt (hk := ?_)
    apply G.seq
    refine G.rg tab_ok ok_concatInt (hk := ?_)
    refine G.fg [0, 3, 9, 10, 11, 20] (hk := ?_)
    refine G.iffF (h2 := ?_)
    apply G.skip
    apply G.blk
    refine G.rg tab_ok ok_concatInt (hk := ?_)
    refine G.cn [0, 3, 9, 10, 11] [] (h := ?_)
    exact G.upto (hJ (j + 1) (by omega) (by omega)) (by simp)
  · try simp only [zz, bne_iff_ne, beq_iff_eq, bne_eq_false_iff_eq, beq_eq_false_iff_ne, ne_eq, gt_iff_lt, ge_iff_le] at h1
    refine G.exit rfl ?_
    apply G.seq
    have hl5 : (flT ls j).length ≤ 1099511627776 := by omega
    refine G.rg tab_ok ok_concatInt (hk := ?_)
    apply G.seq
    apply G.seq
    refine G.rg tab_ok ok_concatInt (hk := ?_)
    apply G.block
    obtain rfl : j = ls.length := by omega
    clear hJ hj
    refine G.nm [6, 25, 26, 27] (h := ?_)
    refine G.loopX (fun j : Nat => ⟨[(6, .sl 0 0 (flT ls j).length), (25, .row false 1 (ls.map ivL)), (26, .int .i64 ls.length), (27, .int .i64 j)], [some (1, (flT ls j).map iv)], 36⟩) (fun j => j ≤ ls.length) (fun j => ls.length - j) (0) (Nat.zero_le _) (by simp [flT_zero]) ?_
    intro j hj J hJ
    have hw : IntKind.i64.wrap ((j : Int) + 1) = (j : Int) + 1 := wrap64 (by omega) (by omega)
    have hl1 := flT_le (ls := ls) j
    have hlt : List.take (flT ls j).length ((flT ls j).map iv) = (flT ls j).map iv := List.take_of_length_le (by simp)
    apply G.seq
    refine G.rg tab_ok ok_concatInt (hk := ?_)
    apply G.seq
    refine G.iff (h1 := fun h3 => ?_) (h2 := fun h3 => ?_)
    · try simp only [zz, bne_iff_ne, beq_iff_eq, bne_eq_false_iff_eq, beq_eq_false_iff_ne, ne_eq, gt_iff_lt, ge_iff_le] at h3
      apply G.skip
      apply G.seq
      apply G.block
      apply G.seq
      have hjl : j < ls.length := by omega
      have hr1 := flT_row (ls := ls) hjl
      have hl2 := flT_le (ls := ls) (j + 1)
      have hap : List.map iv (flT ls j) ++ List.map iv (ls.getD j default) = List.map iv (flT ls (j + 1)) := by rw [flT_succ hjl, List.map_append]
      have hb1 : (((flT ls (j + 1)).length : Nat) : Int) ≤ 4611686018427387904 := by omega
      have hb2 : (flT ls (j + 1)).length * 8 ≤ 70368744177664 := by omega
      refine G.rg tab_ok ok_concatInt (hk := ?_)
      refine G.rg tab_ok ok_concatInt (hk := ?_)
      apply G.blk
      refine G.rg tab_ok ok_concatInt (hk := ?_)
      refine G.nm [6, 25, 26, 27] (h := ?_)
      exact G.upto (hJ (j + 1) (by omega) (by omega)) (by simp)
    · try simp only [zz, bne_iff_ne, beq_iff_eq, bne_eq_false_iff_eq, beq_eq_false_iff_ne, ne_eq, gt_iff_lt, ge_iff_le] at h3
      refine G.exit rfl ?_
      apply G.seq
      refine G.rg tab_ok ok_concatInt (hk := ?_)
      obtain rfl : j = ls.length := by omega
      refine G.fin tab_ok (hr := ?_)
      rw [flT_end]
      rfl
def r_concatInt (xs0 : List A) (rr : A) : Prop := ∃ (ls : List (List Int)), (ls.length ≤ 8) ∧ (ls.flatten.length ≤ 1099511627776) ∧ xs0 = [.row false 1 (ls.map ivL)] ∧ rr = .row true 1 (ls.flatten.map iv)
noncomputable def q_concatInt : List A → Option A := kgr r_concatInt
theorem k_concatInt : KOk Try.prog (134, q_concatInt) := kgr_ok (enters_of Try.func134 rfl rfl) (by rintro xs0 rr ⟨ls, hc1, hc2, rfl, rfl⟩; exact concatInt_ac ls hc1 hc2)
theorem e_concatInt : ∀ (ls : List (List Int)), (ls.length ≤ 8) → (ls.flatten.length ≤ 1099511627776) → q_concatInt [.row false 1 (ls.map ivL)] = some (.row true 1 (ls.flatten.map iv)) := by
  intro ls hc1 hc2
  refine kgr_eq (fun xs0 rr r2 h h2 => ?_) ⟨ls, hc1, hc2, rfl, rfl⟩
  obtain ⟨ls1, _, _, e1, rfl⟩ := h; obtain ⟨ls2, _, _, e2, rfl⟩ := h2
  rw [e1] at e2
  simp only [List.cons.injEq, A.row.injEq, ivL_inj, true_and, and_true] at e2
  subst e2
  rfl
end Go.Proofs.Ytimgfinlbhodhaa.Ab
