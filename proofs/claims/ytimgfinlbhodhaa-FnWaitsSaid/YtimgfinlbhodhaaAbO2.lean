/- Walks of functions. -/
import Derived.Test.YtimgfinlbhodhaaAbObs
import Derived.Test.YtimgfinlbhodhaaFwGj
import Derived.Test.YtimgfinlbhodhaaAbH4
namespace Go.Proofs.Ytimgfinlbhodhaa.Ab
open Go
set_option linter.unusedVariables false
set_option linter.unusedSimpArgs false
set_option maxHeartbeats 4000000
theorem ok_implObserveNetwork : Kn.ok Try.prog (kof [(24, q_implLeastStreams), (46, q_implOutputsOf)]) := kof_cons k_implLeastStreams (kof_cons k_implOutputsOf ((kof_nil _)))
theorem implObserveNetwork_ac (ps : List PG) (ks : List LK) (hc1 : NW ps) (hc2 : KW ks) (hc3 : ps.length < 3518437208781) (hc4 : ks.length < 2513169434844) : AC Try.prog 51 [.agg [.row false 3 (ps.map pv), .row false 5 (ks.map kv)]] (.tup [.row true 1 ((obsO ps ks).1.map ovL), .bool (obsO ps ks).2]) := by
 have e_implLeastStreams := e_implLeastStreams
 have e_implOutputsOf := e_implOutputsOf
 have hivl := ivL_eq
 have hro := roLL_ovL
 have hpov := pureLL_ovL
 have hnov := noLoanLL_ovL
 have hpct := pureLL_cellT
 have hriv := roLL_ivL
 have hpiv := pureLL_ivL
 have hfou : ∀ x : List (List Int), List.take x.length (List.map ovL x) = List.map ovL x := fun x => List.take_of_length_le (by simp)
 obtain ⟨L, hL⟩ : ∃ x, leastO ps ks = x := ⟨_, rfl⟩
 obtain ⟨H, c, b⟩ := L
 refine AC.of tab_ok Try.func51 rfl (Nat.le_of_ble_eq_true rfl) fun w0 S0 => ?_
 change G _ _ ⟨[(0, .agg [.row false 3 (ps.map pv), .row false 5 (ks.map kv)])], [], 35⟩
 apply G.seq
 refine G.rg tab_ok ok_implObserveNetwork (hk := ?_)
 apply G.seq
 refine G.rg tab_ok ok_implObserveNetwork (hk := ?_)
 apply G.seq
 apply G.seq
 refine G.rg tab_ok ok_implObserveNetwork (hk := ?_)
 refine G.fg [1, 4, 17] (hk := ?_)
 refine G.iff (h1 := fun h1 => ?_) (h2 := fun h1 => ?_)
 ·try simp only [zqz] at h1
  apply G.seq
  refine G.rg tab_ok ok_implObserveNetwork (hk := ?_)
  refine G.nilRow 2 1 rfl ?_
  refine G.fin tab_ok (hr := ?_)
  rw [obsO_no (by rw [hL]; exact h1)]
  rfl
 ·try simp only [zqz] at h1
  apply G.skip
  apply G.seq
  have hok : (leastO ps ks).2.2 = true := by rw [hL]; exact h1
  obtain ⟨hnk, hl0, hall⟩ := leastO_ok hok
  rw [hL] at hl0 hall
  simp only at hl0 hall
  have hle1 : H.length ≤ ks.length := Nat.le_of_eq hl0
  have hle2 : ks.length ≤ H.length := Nat.le_of_eq hl0.symm
  have hnw := netOk_w hnk
  have hp12 := hnw.pl
  have hk30 := hnw.kl
  clear hl0
  have hpo : putsO isOut ps ks = whereL isOut ks ks.length := by unfold putsO; rw [if_pos hnk]
  obtain ⟨OL, hOL⟩ : ∃ x, whereL isOut ks ks.length = x := ⟨_, rfl⟩
  rw [hOL] at hpo
  have hwi := where_in isOut ks ks.length
  have hwn := where_nodup isOut ks ks.length
  have hwl := whereL_len isOut ks ks.length
  have hwm := where_map (ks := ks) H ks.length
  rw [hOL] at hwi hwn hwl hwm
  refine G.rg tab_ok ok_implObserveNetwork (hk := ?_)
  apply G.seq
  apply G.seq
  refine G.rg tab_ok ok_implObserveNetwork (hk := ?_)
  apply G.block
  refine G.nm [4, 7, 20, 21, 22] (h := ?_)
  refine G.loopX (fun j : Nat => ⟨[(4, .sl 0 0 H.length), (7, .sl 1 0 j), (20, .sl 2 0 OL.length), (21, .int .i64 OL.length), (22, .int .i64 j)], [some (1, cellT (tkL2 OL j) H), some (1, ((OL.take j).map fun i => H.getD i.toNat default).map ovL), some (1, OL.map iv)], 35⟩) (fun j => j ≤ OL.length) (fun j => OL.length - j) (0) (Nat.zero_le _) (by rw [cellT_none (fun k _ => by unfold tkL2; simp)]; simp) ?_
  intro j hj J hJ
  have hw : IntKind.i64.wrap ((j : Int) + 1) = (j : Int) + 1 := wrap64 (by omega) (by omega)
  apply G.seq
  refine G.rg tab_ok ok_implObserveNetwork (hk := ?_)
  apply G.seq
  refine G.iff (h1 := fun h2 => ?_) (h2 := fun h2 => ?_)
  ·try simp only [zqz] at h2
   apply G.skip
   apply G.seq
   apply G.block
   apply G.seq
   have hjo : j < OL.length := by omega
   obtain ⟨o0, o1⟩ := hwi _ (getD_mem0 hjo)
   have hoh : (OL.getD j default).toNat < H.length := by omega
   have hji : OL.getD j default < (H.length : Int) := by omega
   have hnt := tkL2_not hwn hjo o0
   have hmt : min j OL.length = j := by omega
   have hom : List.take j (((OL.take j).map fun i => H.getD i.toNat default).map ovL) = ((OL.take j).map fun i => H.getD i.toNat default).map ovL := List.take_of_length_le (by simp; omega)
   have hsu : ((OL.take j).map fun i => H.getD i.toNat default) ++ [H.getD (OL.getD j default).toNat default] = (OL.take (j + 1)).map fun i => H.getD i.toNat default := by rw [← take_snoc hjo, List.map_append]; rfl
   have hcx : cellT (fun k => (tkL2 OL j) k || k == (OL.getD j default).toNat) H = cellT (tkL2 OL (j + 1)) H := cellT_ext (fun k _ => tkL2_succ hjo o0 k)
   have hq1 : ((j + 1 : Nat) : Int) ≤ 4611686018427387904 := by omega
   have hq2 : (j + 1) * 24 ≤ 70368744177664 := by omega
   refine G.rg tab_ok ok_implObserveNetwork (hk := ?_)
   have hgc : (cellT (tkL2 OL j) H)[(OL.getD j default).toNat]? = some (ovL (H.getD (OL.getD j default).toNat default)) := cellT_get (by omega) hnt
   have hge : ∀ a : List A, ((cellT (tkL2 OL j) H).set (OL.getD j default).toNat a)[(OL.getD j default).toNat]? = some a := fun a => List.getElem?_set_self (by rw [cellT_len]; omega)
   have hrd : ∀ a : A, rdCells ((cellT (tkL2 OL j) H).set (OL.getD j default).toNat [a]) (OL.getD j default).toNat 0 1 = some [a] := fun a => by simp only [rdCells, hge]; rfl
   refine G.focus 0 (OL.getD j default).toNat 0 (e := ovL (H.getD (OL.getD j default).toNat default)) (sz' := 1) (es' := (H.getD (OL.getD j default).toNat default).map iv) rfl hgc rfl ?_
   simp only [withH, List.set_cons_succ, List.set_cons_zero, List.nil_append, List.cons_append, List.length_cons, List.length_nil, List.length_map, Nat.zero_add, Nat.reduceAdd, ovL_eq]
   have hcs : ((cellT (tkL2 OL j) H).set (OL.getD j default).toNat [A.sl 3 0 (H.getD (OL.getD j default).toNat default).length]).set (OL.getD j default).toNat [A.any] = cellT (fun k => (tkL2 OL j) k || k == (OL.getD j default).toNat) H := by rw [List.set_set]; exact cellT_set
   refine G.rg tab_ok ok_implObserveNetwork (hk := ?_)
   refine G.weakCell 0 (OL.getD j default).toNat 0 (e := [A.sl 3 0 (H.getD (OL.getD j default).toNat default).length]) (x := A.sl 3 0 (H.getD (OL.getD j default).toNat default).length) .any rfl (hge _) rfl (fun w S φ v f h => by cases h; exact .any _) ?_
   simp only [withH, List.set_cons_succ, List.set_cons_zero, hcs]
   refine G.lastE 5 0 3 (f := ovL) (l := (OL.take j).map fun i => H.getD i.toNat default) (H.getD (OL.getD j default).toNat default) rfl rfl rfl (by decide) (by simp) (pureLL_iv _) rfl ?_
   rw [hsu]
   rw [hcx]
   apply G.blk
   refine G.rg tab_ok ok_implObserveNetwork (hk := ?_)
   refine G.nm [4, 7, 20, 21, 22] (h := ?_)
   exact G.upto (hJ (j + 1) (by omega) (by omega)) (by simp)
  ·try simp only [zqz] at h2
   refine G.exit rfl ?_
   apply G.seq
   refine G.rg tab_ok ok_implObserveNetwork (hk := ?_)
   obtain rfl : j = OL.length := by omega
   have hob := obsU_len (ks := ks) H ks.length
   rw [List.take_length, hwm]
   have hle3 : OL.length ≤ (obsU ks H ks.length).length := by rw [← hwm]; simp
   have hol1 : List.take OL.length ((obsU ks H ks.length).map ovL) = (obsU ks H ks.length).map ovL := List.take_of_length_le (by rw [← hwm]; simp)
   refine G.fin tab_ok (hr := ?_)
   rw [obsO_yes hok, hL]
   simp only [oneOrTup]
def r_implObserveNetwork (xs0 : List A) (rr : A) : Prop := ∃ (ps : List PG) (ks : List LK), (NW ps) ∧ (KW ks) ∧ (ps.length < 3518437208781) ∧ (ks.length < 2513169434844) ∧ xs0 = [.agg [.row false 3 (ps.map pv), .row false 5 (ks.map kv)]] ∧ rr = .tup [.row true 1 ((obsO ps ks).1.map ovL), .bool (obsO ps ks).2]
noncomputable def q_implObserveNetwork : List A → Option A := kgr r_implObserveNetwork
theorem k_implObserveNetwork : KOk Try.prog (51, q_implObserveNetwork) := kgr_ok (enters_of Try.func51 rfl rfl) (by rintro xs0 rr ⟨ps, ks, hc1, hc2, hc3, hc4, rfl, rfl⟩; exact implObserveNetwork_ac ps ks hc1 hc2 hc3 hc4)
theorem e_implObserveNetwork : ∀ (ps : List PG) (ks : List LK), (NW ps) → (KW ks) → (ps.length < 3518437208781) → (ks.length < 2513169434844) → q_implObserveNetwork [.agg [.row false 3 (ps.map pv), .row false 5 (ks.map kv)]] = some (.tup [.row true 1 ((obsO ps ks).1.map ovL), .bool (obsO ps ks).2]) := by
 intro ps ks hc1 hc2 hc3 hc4
 refine kgr_eq (fun xs0 rr r2 h h2 => ?_) ⟨ps, ks, hc1, hc2, hc3, hc4, rfl, rfl⟩
 obtain ⟨ps1, ks1, _, _, _, _, e1, rfl⟩ := h; obtain ⟨ps2, ks2, _, _, _, _, e2, rfl⟩ := h2
 rw [e1] at e2
 simp only [List.cons.injEq, A.int.injEq, A.bool.injEq, A.agg.injEq, A.row.injEq, pv_inj, kv_inj, true_and, and_true] at e2
 obtain ⟨e3, e4⟩ := e2
 subst e3 e4
 rfl
end Go.Proofs.Ytimgfinlbhodhaa.Ab
