/- Walks of functions. -/
import Derived.Test.YtdcjlemkegifjaaGreatAbSN1
import Derived.Test.YtdcjlemkegifjaaGreatAbSN2
import Derived.Test.YtdcjlemkegifjaaGreatAbAutoE
namespace Go.Proofs.YtdcjlemkegifjaaGreat.Ab
open Go
set_option linter.unusedVariables false
set_option linter.unusedSimpArgs false
set_option maxHeartbeats 4000000
theorem ok_specStepNetwork : Kn.ok Tryz.prog (kof [(19, q_specCanStep), (21, q_l5Copy)]) := kof_cons k_specCanStep (kof_cons k_l5Copy ((kof_nil _)))
theorem en_l5Step : Enters Tryz.prog 20 := enters_of Tryz.func20 rfl rfl
theorem specStepNetwork_ac (ps : List PG) (ks : List LK) (xs : List AT) (qs : List (List Int)) (hs : List (List Int)) (t : Int) (k : Int) (hc1 : NW ps) (hc2 : KW ks) (hc3 : ps.length < 3518437208781) (hc4 : ks.length < 2513169434844) (hc5 : XW xs) (hc6 : xs.length < 4398046511104) (hc7 : qs.length < 5864062014805) (hc8 : LW qs) (hc9 : hs.length < 5864062014805) (hc10 : LW hs) : AC Tryz.prog 6 [.agg [.row false 3 (ps.map pv), .row false 5 (ks.map kv)], .agg [.row false 2 (xs.map av), .row false 1 (qs.map ivL), .row false 1 (hs.map ivL), .int .i64 t], .int .i64 k] (.tup [.agg [.row true 2 ((stepSO ps ks xs qs hs t k).xs.map oav), .row true 1 ((stepSO ps ks xs qs hs t k).qs.map ovL), .row true 1 ((stepSO ps ks xs qs hs t k).hs.map ovL), .int .i64 (stepSO ps ks xs qs hs t k).t], .bool (canO ps ks xs qs hs t k)]) := by
 have e_specCanStep := e_specCanStep
 have e_l5Copy := e_l5Copy
 have hivl := ivL_eq
 have hro := roLL_ovL
 have hpov := pureLL_ovL
 have hnov := noLoanLL_ovL
 have hft : (false == true) = false := rfl
 have htf : (true == false) = false := rfl
 refine AC.of tab_ok Tryz.func6 rfl (Nat.le_of_ble_eq_true rfl) fun w0 S0 => ?_
 change G _ _ ⟨[(0, .agg [.row false 3 (ps.map pv), .row false 5 (ks.map kv)]), (1, .agg [.row false 2 (xs.map av), .row false 1 (qs.map ivL), .row false 1 (hs.map ivL), .int .i64 t]), (2, .int .i64 k)], [], 19⟩
 apply G.seq
 refine G.rg tab_ok ok_specStepNetwork (hk := ?_)
 apply G.seq
 apply G.seq
 rcases (show canO ps ks xs qs hs t k = false ∨ canO ps ks xs qs hs t k = true by cases canO ps ks xs qs hs t k <;> simp) with c0 | c0
 ·skip
  refine G.rg tab_ok ok_specStepNetwork (hk := ?_)
  refine G.iffT (h1 := ?_)
  apply G.seq
  refine G.rg tab_ok ok_specStepNetwork (hk := ?_)
  refine G.focusNil 2 0 0 2 rfl rfl rfl ?_
  simp only [withH]
  refine G.focusNil 2 0 1 1 rfl rfl rfl ?_
  simp only [withH]
  refine G.focusNil 2 0 2 1 rfl rfl rfl ?_
  simp only [withH]
  refine G.fin tab_ok (hr := ?_)
  simp only [oneOrTup, stepSO_no c0, c0]
  rfl
 ·skip
  obtain ⟨m, rfl, hm, hcan, hSOK⟩ := canO_n c0
  have hst := stOk_w hSOK
  have hnw := netOk_w hst.net
  have hx12 : xs.length ≤ 12 := by have := hnw.pl; have := hst.xl; omega
  have hq30 : qs.length ≤ 30 := by have := hnw.kl; have := hst.ql; omega
  have hh30 : hs.length ≤ 30 := by have := hnw.kl; have := hst.hl; omega
  have hAW := st_a hst
  have hSW := st_q hst
  have hHW := st_h hst
  have hft : (false == true) = false := rfl
  have htf : (true == false) = false := rfl
  have hlx : (xsK ps ks xs qs m).length ≤ xs.length := Nat.le_of_eq xsK_len
  have hlq : (qsK ps ks xs qs m).length ≤ qs.length := Nat.le_of_eq qsK_len
  have hlh : (hsK ps ks xs hs m).length ≤ hs.length := Nat.le_of_eq hsK_len
  have hlx2 : xs.length ≤ (xsK ps ks xs qs m).length := Nat.le_of_eq xsK_len.symm
  have hlq2 : qs.length ≤ (qsK ps ks xs qs m).length := Nat.le_of_eq qsK_len.symm
  have hlh2 : hs.length ≤ (hsK ps ks xs hs m).length := Nat.le_of_eq hsK_len.symm
  have htx : List.take xs.length ((xsK ps ks xs qs m).map oav) = (xsK ps ks xs qs m).map oav := List.take_of_length_le (by simp [xsK_len])
  have htq : List.take qs.length ((qsK ps ks xs qs m).map ovL) = (qsK ps ks xs qs m).map ovL := List.take_of_length_le (by simp [qsK_len])
  have hth : List.take hs.length ((hsK ps ks xs hs m).map ovL) = (hsK ps ks xs hs m).map ovL := List.take_of_length_le (by simp [hsK_len])
  have hfoa : ∀ x : List AT, List.take x.length (x.map oav) = x.map oav := fun x => List.take_of_length_le (by simp)
  have hfos : ∀ x : List (List Int), List.take x.length (x.map ovL) = x.map ovL := fun x => List.take_of_length_le (by simp)
  refine G.rg tab_ok ok_specStepNetwork (hk := ?_)
  refine G.iffF (h2 := ?_)
  apply G.skip
  apply G.seq
  apply G.joinR
  ·intro hk
   refine G.drawF (c := ⟨Tryz.prog, tab, _, _, _, _, _⟩) mixed tab_ok ok_specStepNetwork 4 7 ?_ rfl
   refine AnyF.gg (n := 4) 3 [0, 1, 3] (h := ?_)
   refine AnyF.on (n := 3) 2 (k1 := ?_)
   refine AnyF.o1 (n := 2) (k1 := ?_)
   refine G.cf [3, 4, 5] en_l5Step (l5Step_mc _ ps ks xs qs hs t m rfl hSOK hm hcan) (h := ?_)
   refine AnyF.sem tab_ok ok_specStepNetwork ?_
   refine AnyL.gg (n := 0) 2 [5, 6] (h := ?_)
   exact AnyL.ln [6, 7] (h := hk)
  refine G.fin tab_ok (hr := ?_)
  simp only [oneOrTup, stepSO_yes m c0, c0]
def r_specStepNetwork (xs0 : List A) (rr : A) : Prop := ∃ (ps : List PG) (ks : List LK) (xs : List AT) (qs : List (List Int)) (hs : List (List Int)) (t : Int) (k : Int), (NW ps) ∧ (KW ks) ∧ (ps.length < 3518437208781) ∧ (ks.length < 2513169434844) ∧ (XW xs) ∧ (xs.length < 4398046511104) ∧ (qs.length < 5864062014805) ∧ (LW qs) ∧ (hs.length < 5864062014805) ∧ (LW hs) ∧ xs0 = [.agg [.row false 3 (ps.map pv), .row false 5 (ks.map kv)], .agg [.row false 2 (xs.map av), .row false 1 (qs.map ivL), .row false 1 (hs.map ivL), .int .i64 t], .int .i64 k] ∧ rr = .tup [.agg [.row true 2 ((stepSO ps ks xs qs hs t k).xs.map oav), .row true 1 ((stepSO ps ks xs qs hs t k).qs.map ovL), .row true 1 ((stepSO ps ks xs qs hs t k).hs.map ovL), .int .i64 (stepSO ps ks xs qs hs t k).t], .bool (canO ps ks xs qs hs t k)]
noncomputable def q_specStepNetwork : List A → Option A := kgr r_specStepNetwork
theorem k_specStepNetwork : KOk Tryz.prog (6, q_specStepNetwork) := kgr_ok (enters_of Tryz.func6 rfl rfl) (by rintro xs0 rr ⟨ps, ks, xs, qs, hs, t, k, hc1, hc2, hc3, hc4, hc5, hc6, hc7, hc8, hc9, hc10, rfl, rfl⟩; exact specStepNetwork_ac ps ks xs qs hs t k hc1 hc2 hc3 hc4 hc5 hc6 hc7 hc8 hc9 hc10)
theorem e_specStepNetwork : ∀ (ps : List PG) (ks : List LK) (xs : List AT) (qs : List (List Int)) (hs : List (List Int)) (t : Int) (k : Int), (NW ps) → (KW ks) → (ps.length < 3518437208781) → (ks.length < 2513169434844) → (XW xs) → (xs.length < 4398046511104) → (qs.length < 5864062014805) → (LW qs) → (hs.length < 5864062014805) → (LW hs) → q_specStepNetwork [.agg [.row false 3 (ps.map pv), .row false 5 (ks.map kv)], .agg [.row false 2 (xs.map av), .row false 1 (qs.map ivL), .row false 1 (hs.map ivL), .int .i64 t], .int .i64 k] = some (.tup [.agg [.row true 2 ((stepSO ps ks xs qs hs t k).xs.map oav), .row true 1 ((stepSO ps ks xs qs hs t k).qs.map ovL), .row true 1 ((stepSO ps ks xs qs hs t k).hs.map ovL), .int .i64 (stepSO ps ks xs qs hs t k).t], .bool (canO ps ks xs qs hs t k)]) := by
 intro ps ks xs qs hs t k hc1 hc2 hc3 hc4 hc5 hc6 hc7 hc8 hc9 hc10
 refine kgr_eq (fun xs0 rr r2 h h2 => ?_) ⟨ps, ks, xs, qs, hs, t, k, hc1, hc2, hc3, hc4, hc5, hc6, hc7, hc8, hc9, hc10, rfl, rfl⟩
 obtain ⟨ps1, ks1, xs1, qs1, hs1, t1, k1, _, _, _, _, _, _, _, _, _, _, e1, rfl⟩ := h; obtain ⟨ps2, ks2, xs2, qs2, hs2, t2, k2, _, _, _, _, _, _, _, _, _, _, e2, rfl⟩ := h2
 rw [e1] at e2
 simp only [List.cons.injEq, A.int.injEq, A.agg.injEq, A.row.injEq, pv_inj, kv_inj, av_inj, ivL_inj, true_and, and_true] at e2
 obtain ⟨⟨e1, e2⟩, ⟨e3, e4, e5, e6⟩, e7⟩ := e2
 subst e1 e2 e3 e4 e5 e6 e7
 rfl
end Go.Proofs.YtdcjlemkegifjaaGreat.Ab
