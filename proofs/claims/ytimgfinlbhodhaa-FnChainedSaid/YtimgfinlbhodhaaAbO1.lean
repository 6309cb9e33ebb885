/- Walks of functions of the program: what each answers, for all arguments that meet its conditions. -/
import Derived.Test.YtimgfinlbhodhaaAbObs
import Derived.Test.YtimgfinlbhodhaaFwGj
import Derived.Test.YtimgfinlbhodhaaAbH4
import Derived.Test.YtimgfinlbhodhaaFwGg
import Derived.Test.YtimgfinlbhodhaaFwB
import Derived.Test.YtimgfinlbhodhaaFwGa
namespace Go.Proofs.Ytimgfinlbhodhaa.Ab
open Go
set_option linter.unusedVariables false
set_option linter.unusedSimpArgs false
set_option maxHeartbeats 4000000
theorem ok_specObserveNetwork : Kn.ok Try.prog (kof [(25, q_specLeastStreams)]) := kof_cons k_specLeastStreams ((kof_nil _))
theorem specObserveNetwork_ac (ps : List PG) (ks : List LK) (hc1 : NW ps) (hc2 : KW ks) (hc3 : ps.length < 3518437208781) (hc4 : ks.length < 2513169434844) : AC Try.prog 58 [.agg [.row false 3 (ps.map pv), .row false 5 (ks.map kv)]] (.tup [.row true 1 ((obsO ps ks).1.map ovL), .bool (obsO ps ks).2]) := by
  have e_specLeastStreams := e_specLeastStreams
  have hivl := ivL_eq
  have hro := roLL_ovL
  have hpov := pureLL_ovL
  have hnov := noLoanLL_ovL
  have hpct := pureLL_cellT
  have hriv := roLL_ivL
  have hpiv := pureLL_ivL
  have hfou : ∀ x : List (List Int), List.take x.length (List.map ovL x) = List.map ovL x := fun x => List.take_of_length_le (by simp)
  obtain ⟨L, hL⟩ : ∃ x, leastO ps ks = x := ⟨_, rfl⟩
  obtain ⟨H, c, b⟩ := L
  refine AC.of tab_ok Try.func58 rfl (Nat.le_of_ble_eq_true rfl) fun w0 S0 => ?_
  change G _ _ ⟨[(0, .agg [.row false 3 (ps.map pv), .row false 5 (ks.map kv)])], [], 39⟩
  apply G.seq
  refine G.rg tab_ok ok_specObserveNetwork (hk := ?_)
  apply G.seq
  refine G.rg tab_ok ok_specObserveNetwork (hk := ?_)
  apply G.seq
  apply G.seq
  refine G.rg tab_ok ok_specObserveNetwork (hk := ?_)
  refine G.fg [1, 4, 17] (hk := ?_)
  refine G.iff (h1 := fun h1 => ?_) (h2 := fun h1 => ?_)
  · try simp only [zz, bne_iff_ne, beq_iff_eq, bne_eq_false_iff_eq, beq_eq_false_iff_ne, ne_eq, gt_iff_lt, ge_iff_le] at h1
    apply G.seq
    refine G.rg tab_ok ok_specObserveNetwork (hk := ?_)
    refine G.nilRow 2 1 rfl ?_
    refine G.fin tab_ok (hr := ?_)
    rw [obsO_no (by rw [hL]; exact h1)]
    rfl
  · try simp only [zz, bne_iff_ne, beq_iff_eq, bne_eq_false_iff_eq, beq_eq_false_iff_ne, ne_eq, gt_iff_lt, ge_iff_le] at h1
    apply G.skip
    apply G.seq
    have hok : (leastO ps ks).2.2 = true := by rw [hL]; exact h1
    obtain ⟨hnk, hl0, hall⟩ := leastO_ok hok
    rw [hL] at hl0 hall
    simp only at hl0 hall
    have hle1 : H.length ≤ ks.length := Nat.le_of_eq hl0
    have hle2 : ks.length ≤ H.length := Nat.le_of_eq hl0.symm
    have hnw := netOk_w hnk
    have hp12 := hnw.pl
    have hk30 := hnw.kl
    clear hl0
    refine G.rg tab_ok ok_specObserveNetwork (hk := ?_)
    apply G.seq
    apply G.seq
    refine G.rg tab_ok ok_specObserveNetwork (hk := ?_)
    apply G.block
    refine G.nm [4, 7, 20, 21, 22] (h := ?_)
    refine G.loopX (fun j : Nat => ⟨[(4, .sl 0 0 H.length), (7, .sl 1 0 (obsU ks H j).length), (20, .row false 5 (ks.map kv)), (21, .int .i64 ks.length), (22, .int .i64 j)], [some (1, cellT (tkU ks j) H), some (1, (obsU ks H j).map ovL)], 39⟩) (fun j => j ≤ ks.length) (fun j => ks.length - j) (0) (Nat.zero_le _) (by rw [cellT_none (fun k _ => by unfold tkU; simp)]; simp [obsU]) ?_
    intro j hj J hJ
    have hw : IntKind.i64.wrap ((j : Int) + 1) = (j : Int) + 1 := wrap64 (by omega) (by omega)
    apply G.seq
    refine G.rg tab_ok ok_specObserveNetwork (hk := ?_)
    apply G.seq
    refine G.iff (h1 := fun h2 => ?_) (h2 := fun h2 => ?_)
    · try simp only [zz, bne_iff_ne, beq_iff_eq, bne_eq_false_iff_eq, beq_eq_false_iff_ne, ne_eq, gt_iff_lt, ge_iff_le] at h2
      apply G.skip
      apply G.seq
      apply G.block
      apply G.seq
      have hjk : j < ks.length := by omega
      have hjh : j < H.length := by omega
      have hji : (j : Int) < (H.length : Int) := by omega
      have hol := obsU_len (ks := ks) H j
      have hom : List.take (obsU ks H j).length ((obsU ks H j).map ovL) = (obsU ks H j).map ovL := List.take_of_length_le (by simp)
      have hq1 : (((obsU ks H j).length + 1 : Nat) : Int) ≤ 4611686018427387904 := by omega
      have hq2 : ((obsU ks H j).length + 1) * 24 ≤ 70368744177664 := by omega
      refine G.rg tab_ok ok_specObserveNetwork (hk := ?_)
      apply G.seq
      refine G.rg tab_ok ok_specObserveNetwork (hk := ?_)
      refine G.fg [4, 7, 8, 20, 21, 22, 29] (hk := ?_)
      refine G.iff (h1 := fun h3 => ?_) (h2 := fun h3 => ?_)
      · try simp only [zz, bne_iff_ne, beq_iff_eq, bne_eq_false_iff_eq, beq_eq_false_iff_ne, ne_eq, gt_iff_lt, ge_iff_le] at h3
        have hio : isOut (ks.getD j default) = true := by unfold isOut; rw [h3]; rfl
        have hnt : tkU ks j j = false := by unfold tkU; simp
        have hsu : obsU ks H j ++ [H.getD j default] = obsU ks H (j + 1) := by rw [obsU, if_pos hio]
        have hcx : cellT (fun k => (tkU ks j) k || k == j) H = cellT (tkU ks (j + 1)) H := cellT_ext (fun k _ => tkU_yes hio k)
        have hgc : (cellT (tkU ks j) H)[j]? = some (ovL (H.getD j default)) := cellT_get (by omega) hnt
        have hge : ∀ a : List A, ((cellT (tkU ks j) H).set j a)[j]? = some a := fun a => List.getElem?_set_self (by rw [cellT_len]; omega)
        have hrd : ∀ a : A, rdCells ((cellT (tkU ks j) H).set j [a]) j 0 1 = some [a] := fun a => by simp only [rdCells, hge]; rfl
        refine G.focus 0 j 0 (e := ovL (H.getD j default)) (sz' := 1) (es' := (H.getD j default).map iv) rfl hgc rfl ?_
        simp only [withH, List.set_cons_succ, List.set_cons_zero, List.nil_append, List.cons_append, List.length_cons, List.length_nil, List.length_map, Nat.zero_add, Nat.reduceAdd, ovL_eq]
        have hcs : ((cellT (tkU ks j) H).set j [A.sl 3 0 (H.getD j default).length]).set j [A.any] = cellT (fun k => (tkU ks j) k || k == j) H := by rw [List.set_set]; exact cellT_set
        refine G.rg tab_ok ok_specObserveNetwork (hk := ?_)
        refine G.weakCell 0 j 0 (e := [A.sl 3 0 (H.getD j default).length]) (x := A.sl 3 0 (H.getD j default).length) .any rfl (hge _) rfl (fun w S φ v f h => by cases h; exact .any _) ?_
        simp only [withH, List.set_cons_succ, List.set_cons_zero, hcs]
        refine G.lastE 5 0 3 (f := ovL) (l := obsU ks H j) (H.getD j default) rfl rfl rfl (by decide) (by simp) (pureLL_iv _) rfl ?_
        rw [hsu]
        have hsl : (obsU ks H j).length + 1 = (obsU ks H (j + 1)).length := by rw [← hsu]; simp
        rw [hcx, hsl]
        apply G.blk
        first
        | (have hy := hcx)
        | (have hio : isOut (ks.getD j default) = false := by unfold isOut; simpa using h3
           have hcx : cellT (tkU ks j) H = cellT (tkU ks (j + 1)) H := cellT_ext (fun k _ => tkU_no hio k)
           have hsu : obsU ks H j = obsU ks H (j + 1) := by rw [obsU, if_neg (by rw [hio]; simp)])
        refine G.rg tab_ok ok_specObserveNetwork (hk := ?_)
        refine G.nm [4, 7, 20, 21, 22] (h := ?_)
        exact G.upto (hJ (j + 1) (by omega) (by omega)) (by first | (simp; done) | (rw [hcx, hsu]; simp; done))
      · try simp only [zz, bne_iff_ne, beq_iff_eq, bne_eq_false_iff_eq, beq_eq_false_iff_ne, ne_eq, gt_iff_lt, ge_iff_le] at h3
        apply G.skip
        apply G.blk
        first
        | (have hy := hcx)
        | (have hio : isOut (ks.getD j default) = false := by unfold isOut; simpa using h3
           have hcx : cellT (tkU ks j) H = cellT (tkU ks (j + 1)) H := cellT_ext (fun k _ => tkU_no hio k)
           have hsu : obsU ks H j = obsU ks H (j + 1) := by rw [obsU, if_neg (by rw [hio]; simp)])
        refine G.rg tab_ok ok_specObserveNetwork (hk := ?_)
        refine G.nm [4, 7, 20, 21, 22] (h := ?_)
        exact G.upto (hJ (j + 1) (by omega) (by omega)) (by first | (simp; done) | (rw [hcx, hsu]; simp; done))
    · try simp only [zz, bne_iff_ne, beq_iff_eq, bne_eq_false_iff_eq, beq_eq_false_iff_ne, ne_eq, gt_iff_lt, ge_iff_le] at h2
      refine G.exit rfl ?_
      apply G.seq
      refine G.rg tab_ok ok_specObserveNetwork (hk := ?_)
      obtain rfl : j = ks.length := by omega
      have hol1 : List.take (obsU ks H ks.length).length ((obsU ks H ks.length).map ovL) = (obsU ks H ks.length).map ovL := List.take_of_length_le (by simp)
      refine G.fin tab_ok (hr := ?_)
      rw [obsO_yes hok, hL]
      simp only [oneOrTup]
def r_specObserveNetwork (xs0 : List A) (rr : A) : Prop := ∃ (ps : List PG) (ks : List LK), (NW ps) ∧ (KW ks) ∧ (ps.length < 3518437208781) ∧ (ks.length < 2513169434844) ∧ xs0 = [.agg [.row false 3 (ps.map pv), .row false 5 (ks.map kv)]] ∧ rr = .tup [.row true 1 ((obsO ps ks).1.map ovL), .bool (obsO ps ks).2]
noncomputable def q_specObserveNetwork : List A → Option A := kgr r_specObserveNetwork
theorem k_specObserveNetwork : KOk Try.prog (58, q_specObserveNetwork) := kgr_ok (enters_of Try.func58 rfl rfl) (by rintro xs0 rr ⟨ps, ks, hc1, hc2, hc3, hc4, rfl, rfl⟩; exact specObserveNetwork_ac ps ks hc1 hc2 hc3 hc4)
theorem e_specObserveNetwork : ∀ (ps : List PG) (ks : List LK), (NW ps) → (KW ks) → (ps.length < 3518437208781) → (ks.length < 2513169434844) → q_specObserveNetwork [.agg [.row false 3 (ps.map pv), .row false 5 (ks.map kv)]] = some (.tup [.row true 1 ((obsO ps ks).1.map ovL), .bool (obsO ps ks).2]) := by
  intro ps ks hc1 hc2 hc3 hc4
  refine kgr_eq (fun xs0 rr r2 h h2 => ?_) ⟨ps, ks, hc1, hc2, hc3, hc4, rfl, rfl⟩
  obtain ⟨ps1, ks1, _, _, _, _, e1, rfl⟩ := h; obtain ⟨ps2, ks2, _, _, _, _, e2, rfl⟩ := h2
  rw [e1] at e2
  simp only [List.cons.injEq, A.int.injEq, A.bool.injEq, A.agg.injEq, A.row.injEq, pv_inj, kv_inj, true_and, and_true] at e2
  obtain ⟨e3, e4⟩ := e2
  subst e3 e4
  rfl
end Go.Proofs.Ytimgfinlbhodhaa.Ab
