/- Walks of functions. -/
import Derived.Test.YtimgfinlbhodhaaFwGk
import Derived.Test.YtimgfinlbhodhaaFwGi
namespace Go.Proofs.Ytimgfinlbhodhaa.Ab
open Go
set_option linter.unusedVariables false
set_option linter.unusedSimpArgs false
set_option maxHeartbeats 4000000
theorem ok_implIsQuiet : Kn.ok Try.prog (kof [(65, q_implIsState), (66, q_newRun), (69, q_r_quiet)]) := kof_cons k_implIsState (kof_cons k_newRun (kof_cons k_r_quiet ((kof_nil _))))
theorem implIsQuiet_ac (ps : List PG) (ks : List LK) (xs : List AT) (qs : List (List Int)) (hs : List (List Int)) (t : Int) (hc1 : NW ps) (hc2 : KW ks) (hc3 : ps.length < 3518437208781) (hc4 : ks.length < 2513169434844) (hc5 : XW xs) (hc6 : xs.length < 4398046511104) (hc7 : qs.length < 5864062014805) (hc8 : LW qs) (hc9 : hs.length < 5864062014805) (hc10 : LW hs) : AC Try.prog 27 [.agg [.row false 3 (ps.map pv), .row false 5 (ks.map kv)], .agg [.row false 2 (xs.map av), .row false 1 (qs.map ivL), .row false 1 (hs.map ivL), .int .i64 t]] (.bool (quietO ps ks xs qs hs t)) := by
 have e_implIsState := e_implIsState
 have e_newRun := e_newRun
 have e_r_quiet := e_r_quiet
 have hivl := ivL_eq
 have hro := roLL_ovL
 have hpov := pureLL_ovL
 have hnov := noLoanLL_ovL
 have hft : (false == true) = false := rfl
 have htf : (true == false) = false := rfl
 refine AC.of tab_ok Try.func27 rfl (Nat.le_of_ble_eq_true rfl) fun w0 S0 => ?_
 change G _ _ ⟨[(0, .agg [.row false 3 (ps.map pv), .row false 5 (ks.map kv)]), (1, .agg [.row false 2 (xs.map av), .row false 1 (qs.map ivL), .row false 1 (hs.map ivL), .int .i64 t])], [], 14⟩
 apply G.seq
 refine G.rg tab_ok ok_implIsQuiet (hk := ?_)
 apply G.seq
 rcases (show stOk ps ks xs qs hs t = false ∨ stOk ps ks xs qs hs t = true by cases stOk ps ks xs qs hs t <;> simp) with c1 | c1
 ·skip
  refine G.rgN 4 tab_ok ok_implIsQuiet (hk := ?_)
  refine G.rdC tab_ok ok_implIsQuiet (hk := ?_)
  refine G.fin tab_ok (hr := ?_)
  simp only [oneOrTup]
  rw [quiet_st c1]
 ·skip
  refine G.rgN 4 tab_ok ok_implIsQuiet (hk := ?_)
  refine G.rdC tab_ok ok_implIsQuiet (hk := ?_)
  refine G.fin tab_ok (hr := ?_)
  simp only [oneOrTup]
  rw [quiet_yes c1]
def r_implIsQuiet (xs0 : List A) (rr : A) : Prop := ∃ (ps : List PG) (ks : List LK) (xs : List AT) (qs : List (List Int)) (hs : List (List Int)) (t : Int), (NW ps) ∧ (KW ks) ∧ (ps.length < 3518437208781) ∧ (ks.length < 2513169434844) ∧ (XW xs) ∧ (xs.length < 4398046511104) ∧ (qs.length < 5864062014805) ∧ (LW qs) ∧ (hs.length < 5864062014805) ∧ (LW hs) ∧ xs0 = [.agg [.row false 3 (ps.map pv), .row false 5 (ks.map kv)], .agg [.row false 2 (xs.map av), .row false 1 (qs.map ivL), .row false 1 (hs.map ivL), .int .i64 t]] ∧ rr = .bool (quietO ps ks xs qs hs t)
noncomputable def q_implIsQuiet : List A → Option A := kgr r_implIsQuiet
theorem k_implIsQuiet : KOk Try.prog (27, q_implIsQuiet) := kgr_ok (enters_of Try.func27 rfl rfl) (by rintro xs0 rr ⟨ps, ks, xs, qs, hs, t, hc1, hc2, hc3, hc4, hc5, hc6, hc7, hc8, hc9, hc10, rfl, rfl⟩; exact implIsQuiet_ac ps ks xs qs hs t hc1 hc2 hc3 hc4 hc5 hc6 hc7 hc8 hc9 hc10)
theorem e_implIsQuiet : ∀ (ps : List PG) (ks : List LK) (xs : List AT) (qs : List (List Int)) (hs : List (List Int)) (t : Int), (NW ps) → (KW ks) → (ps.length < 3518437208781) → (ks.length < 2513169434844) → (XW xs) → (xs.length < 4398046511104) → (qs.length < 5864062014805) → (LW qs) → (hs.length < 5864062014805) → (LW hs) → q_implIsQuiet [.agg [.row false 3 (ps.map pv), .row false 5 (ks.map kv)], .agg [.row false 2 (xs.map av), .row false 1 (qs.map ivL), .row false 1 (hs.map ivL), .int .i64 t]] = some (.bool (quietO ps ks xs qs hs t)) := by
 intro ps ks xs qs hs t hc1 hc2 hc3 hc4 hc5 hc6 hc7 hc8 hc9 hc10
 refine kgr_eq (fun xs0 rr r2 h h2 => ?_) ⟨ps, ks, xs, qs, hs, t, hc1, hc2, hc3, hc4, hc5, hc6, hc7, hc8, hc9, hc10, rfl, rfl⟩
 obtain ⟨ps1, ks1, xs1, qs1, hs1, t1, _, _, _, _, _, _, _, _, _, _, e1, rfl⟩ := h; obtain ⟨ps2, ks2, xs2, qs2, hs2, t2, _, _, _, _, _, _, _, _, _, _, e2, rfl⟩ := h2
 rw [e1] at e2
 simp only [List.cons.injEq, A.int.injEq, A.agg.injEq, A.row.injEq, pv_inj, kv_inj, av_inj, ivL_inj, true_and, and_true] at e2
 obtain ⟨⟨e1, e2⟩, e3, e4, e5, e6⟩ := e2
 subst e1 e2 e3 e4 e5 e6
 rfl
end Go.Proofs.Ytimgfinlbhodhaa.Ab
