/- Walks of functions. -/
import Derived.Test.YtdcjlemkegifjaaGreatAbSN3
import Derived.Test.YtdcjlemkegifjaaGreatAbSN4
namespace Go.Proofs.YtdcjlemkegifjaaGreat.Ab
open Go
set_option linter.unusedVariables false
set_option linter.unusedSimpArgs false
set_option maxHeartbeats 4000000
theorem ok_lawStepNetwork : Kn.ok Tryz.prog (kof [(4, q_szNetwork), (5, q_szState), (7, q_toNetwork), (8, q_toState), (6, q_specStepNetwork), (9, q_implStepNetwork), (10, q_eqState), (11, q_eqNetwork), (14, q_heldState)]) := kof_cons k_szNetwork (kof_cons k_szState (kof_cons k_toNetwork (kof_cons k_toState (kof_cons k_specStepNetwork (kof_cons k_implStepNetwork (kof_cons k_eqState (kof_cons k_eqNetwork (kof_cons k_heldState ((kof_nil _))))))))))
theorem en_markNetwork : Enters Tryz.prog 12 := enters_of Tryz.func12 rfl rfl
theorem en_markState : Enters Tryz.prog 13 := enters_of Tryz.func13 rfl rfl
theorem lawStepNetwork_ac (ps : List PG) (ks : List LK) (xs : List AT) (qs : List (List Int)) (hs : List (List Int)) (t : Int) (k : Int) (hc1 : NW ps) (hc2 : KW ks) (hc3 : ps.length < 3518437208781) (hc4 : ks.length < 2513169434844) (hc5 : XW xs) (hc6 : xs.length < 4398046511104) (hc7 : qs.length < 5864062014805) (hc8 : LW qs) (hc9 : hs.length < 5864062014805) (hc10 : LW hs) : AC Tryz.prog 3 [.agg [.row false 3 (ps.map pv), .row false 5 (ks.map kv)], .agg [.row false 2 (xs.map av), .row false 1 (qs.map ivL), .row false 1 (hs.map ivL), .int .i64 t], .int .i64 k] (.bool true) := by
 have e_szNetwork := e_szNetwork
 have e_szState := e_szState
 have e_toNetwork := e_toNetwork
 have e_toState := e_toState
 have e_specStepNetwork := e_specStepNetwork
 have e_implStepNetwork := e_implStepNetwork
 have e_eqState := e_eqState
 have e_eqNetwork := e_eqNetwork
 have e_heldState := e_heldState
 have hivl := ivL_eq
 have hro := roLL_ovL
 have hpov := pureLL_ovL
 have hnov := noLoanLL_ovL
 have hsz : szNet 1048576 ps ks ≤ 1048576 := szNet_le (by omega)
 obtain ⟨b1, b2, b3, b4, b5, b6⟩ := stepSO_bd ps ks xs qs hs t k
 obtain ⟨O, hO⟩ : ∃ x, stepSO ps ks xs qs hs t k = x := ⟨_, rfl⟩
 rw [hO] at b1 b2 b3 b4 b5 b6
 have hOx : XW O.xs := fun x hx => by have := b4 x hx; omega
 have hOq : LW O.qs := fun x hx => by have := b5 x hx; omega
 have hOh : LW O.hs := fun x hx => by have := b6 x hx; omega
 have hO1 : O.xs.length < 4398046511104 := by omega
 have hO2 : O.qs.length < 5864062014805 := by omega
 have hO3 : O.hs.length < 5864062014805 := by omega
 have hO4 : O.xs.length < 1099511627776 := by omega
 have hO5 : O.qs.length < 1099511627776 := by omega
 have hO6 : O.hs.length < 1099511627776 := by omega
 have hOb := st_tot b1 b2 b3 b4 b5 b6
 have hml1 : O.xs.length ≤ (mkAS 1 O.xs).length := by rw [mkAS_len]; exact Nat.le_refl _
 have hml2 : O.qs.length ≤ (mkSS (1 + (tA O.xs : Int)) O.qs).length := by rw [mkSS_len]; exact Nat.le_refl _
 have hml3 : O.hs.length ≤ (mkSS (1 + (tA O.xs : Int) + (tot O.qs : Int)) O.hs).length := by rw [mkSS_len]; exact Nat.le_refl _
 have hmk1 : List.take O.xs.length ((mkAS 1 O.xs).map oav) = (mkAS 1 O.xs).map oav := List.take_of_length_le (by simp [mkAS_len])
 have hmk2 : List.take O.qs.length ((mkSS (1 + (tA O.xs : Int)) O.qs).map ovL) = (mkSS (1 + (tA O.xs : Int)) O.qs).map ovL := List.take_of_length_le (by simp [mkSS_len])
 have hmk3 : List.take O.hs.length ((mkSS (1 + (tA O.xs : Int) + (tot O.qs : Int)) O.hs).map ovL) = (mkSS (1 + (tA O.xs : Int) + (tot O.qs : Int)) O.hs).map ovL := List.take_of_length_le (by simp [mkSS_len])
 have hmp1 : (mkAS 1 O.xs).length < 1099511627776 := by rw [mkAS_len]; omega
 have hmp2 : (mkSS (1 + (tA O.xs : Int)) O.qs).length < 1099511627776 := by rw [mkSS_len]; omega
 have hmp3 : (mkSS (1 + (tA O.xs : Int) + (tot O.qs : Int)) O.hs).length < 1099511627776 := by rw [mkSS_len]; omega
 have hmw2 : LW (mkSS (1 + (tA O.xs : Int)) O.qs) := fun x hx => by have := mkSS_mem _ b5 x hx; omega
 have hmw3 : LW (mkSS (1 + (tA O.xs : Int) + (tot O.qs : Int)) O.hs) := fun x hx => by have := mkSS_mem _ b6 x hx; omega
 have hmt : (1 : Int) + (tA (mkAS 1 O.xs) : Int) + (tot (mkSS (1 + (tA O.xs : Int)) O.qs) : Int) + (tot (mkSS (1 + (tA O.xs : Int) + (tot O.qs : Int)) O.hs) : Int) ≤ 1048576000 := by rw [mkAS_tot, mkSS_tot, mkSS_tot]; exact hOb
 have hhN : heldSt 1 (mkAS 1 O.xs) (mkSS (1 + (tA O.xs : Int)) O.qs) (mkSS (1 + (tA O.xs : Int) + (tot O.qs : Int)) O.hs) = 1 + (tA O.xs : Int) + (tot O.qs : Int) + (tot O.hs : Int) := heldSt_mk 1 (by omega) _ _ _
 have hnO : ¬ ((1 : Int) + (tA O.xs : Int) + (tot O.qs : Int) + (tot O.hs : Int) < 0) := by omega
 clear b1 b2 b3 b4 b5 b6
 refine AC.of tab_ok Tryz.func3 rfl (Nat.le_of_ble_eq_true rfl) fun w0 S0 => ?_
 change G _ _ ⟨[(0, .agg [.row false 3 (ps.map pv), .row false 5 (ks.map kv)]), (1, .agg [.row false 2 (xs.map av), .row false 1 (qs.map ivL), .row false 1 (hs.map ivL), .int .i64 t]), (2, .int .i64 k)], [], 124⟩
 apply G.seq
 refine G.rg tab_ok ok_lawStepNetwork (hk := ?_)
 apply G.seq
 refine G.rg tab_ok ok_lawStepNetwork (hk := ?_)
 apply G.seq
 refine G.rg tab_ok ok_lawStepNetwork (hk := ?_)
 apply G.seq
 apply G.seq
 refine G.rg tab_ok ok_lawStepNetwork (hk := ?_)
 refine G.fg [2, 3, 4, 7, 8, 17, 23, 29, 30, 31, 32, 33, 34, 35, 36, 37, 58, 59, 60, 61, 63, 64, 65, 66, 98, 99, 100, 101, 102, 103, 104, 105, 106] (hk := ?_)
 refine G.iff (h1 := fun h1 => ?_) (h2 := fun h1 => ?_)
 ·try simp only [zqz] at h1
  apply G.seq
  refine G.rg tab_ok ok_lawStepNetwork (hk := ?_)
  refine G.fin tab_ok (hr := ?_)
  rfl
 ·try simp only [zqz] at h1
  apply G.skip
  apply G.seq
  refine G.rg tab_ok ok_lawStepNetwork (hk := ?_)
  apply G.seq
  apply G.seq
  refine G.rg tab_ok ok_lawStepNetwork (hk := ?_)
  refine G.iff (h1 := fun h2 => ?_) (h2 := fun h2 => ?_)
  ·try simp only [zqz] at h2
   apply G.seq
   refine G.rg tab_ok ok_lawStepNetwork (hk := ?_)
   refine G.fin tab_ok (hr := ?_)
   rfl
  ·try simp only [zqz] at h2
   apply G.skip
   apply G.seq
   have hszo := szNet_ok (n := 1048576) (ps := ps) (ks := ks) (by omega)
   have htp := tP_eq ps
   have htk0 := tK_eq ks
   have hps20 : ps.length ≤ 1048576 := by omega
   have hks20 : ks.length ≤ 1048576 := by omega
   have hpl : ps.length < 1099511627776 := by omega
   have hkl : ks.length < 1099511627776 := by omega
   have hbt : (1 : Int) + (tP ps : Int) + (tK ks : Int) ≤ 1048576000 := by omega
   have hn1 : ¬ ((1 : Int) + (tP ps : Int) + (tK ks : Int) < 0) := by omega
   have hsso := szSt_ok (n := szNet 1048576 ps ks) (xs := xs) (qs := qs) (hs := hs) (by omega)
   have hta := tA_eq xs
   have hx40 : xs.length < 1099511627776 := by omega
   have hq40 : qs.length < 1099511627776 := by omega
   have hh40 : hs.length < 1099511627776 := by omega
   have hqb2 : (1 : Int) + (tP ps : Int) + (tK ks : Int) + (tA xs : Int) + (tot qs : Int) + (tot hs : Int) ≤ 1048576000 := by omega
   have hn4 : ¬ ((1 : Int) + (tP ps : Int) + (tK ks : Int) + (tA xs : Int) + (tot qs : Int) + (tot hs : Int) < 0) := by omega
   clear hsso hta hszo htp htk0
   apply G.joinR
   ·intro hk
    refine G.drawL (c := ⟨Tryz.prog, tab, _, _, _, _, _⟩) mixed tab_ok ok_lawStepNetwork 12 ?_ rfl
    refine AnyL.gg (n := 9) 3 [0, 2, 4] (h := ?_)
    refine AnyL.fk2 (n := 8) 1 9 (k1 := ?_) (k2 := ?_)
    ·skip
     refine AnyL.fk2 (n := 7) 3 9 (k1 := ?_) (k2 := ?_)
     ·skip
      refine AnyL.fk2 (n := 6) 5 9 (k1 := ?_) (k2 := ?_)
      ·skip
       refine AnyL.gg (n := 0) 6 [6, 7, 8, 9, 10, 11] (h := ?_)
       exact AnyL.ln [2, 3, 4, 8, 9, 17, 58, 59, 60, 61, 63, 64, 65, 66, 98, 99, 100, 101, 102, 103, 104, 105, 106] (h := hk)
      ·skip
       refine AnyL.gg (n := 0) 6 [5, 6, 7, 8, 10, 11] (h := ?_)
       exact AnyL.ln [2, 3, 4, 8, 9, 17, 58, 59, 60, 61, 63, 64, 65, 66, 98, 99, 100, 101, 102, 103, 104, 105, 106] (h := hk)
     ·skip
      refine AnyL.gg (n := 0) 7 [3, 5, 6, 7, 8, 10, 11] (h := ?_)
      exact AnyL.ln [2, 3, 4, 8, 9, 17, 58, 59, 60, 61, 63, 64, 65, 66, 98, 99, 100, 101, 102, 103, 104, 105, 106] (h := hk)
    ·skip
     refine AnyL.gg (n := 0) 8 [1, 3, 5, 6, 7, 8, 10, 11] (h := ?_)
     exact AnyL.ln [2, 3, 4, 8, 9, 17, 58, 59, 60, 61, 63, 64, 65, 66, 98, 99, 100, 101, 102, 103, 104, 105, 106] (h := hk)
   apply G.seq
   refine G.rg tab_ok ok_lawStepNetwork (hk := ?_)
   apply G.seq
   refine G.rg tab_ok ok_lawStepNetwork (hk := ?_)
   apply G.seq
   refine G.rg tab_ok ok_lawStepNetwork (hk := ?_)
   apply G.seq
   apply G.seq
   refine G.fg [2, 3, 4, 8, 9, 10, 11, 12, 13, 17, 58, 59, 60, 61, 63, 64, 65, 66, 98, 99, 100, 101, 102, 103, 104, 105, 106] (hk := ?_)
   refine G.rg tab_ok ok_lawStepNetwork (hk := ?_)
   refine G.fg [2, 3, 4, 8, 9, 10, 11, 12, 13, 17, 57, 58, 59, 60, 61, 63, 64, 65, 66, 98, 99, 100, 101, 102, 103, 104, 105, 106] (hk := ?_)
   refine G.iffF (h2 := ?_)
   apply G.skip
   apply G.seq
   apply G.seq
   refine G.dr mixed tab_ok ok_lawStepNetwork [0, 1, 2, 3, 4] (hk := ?_)
   refine G.iffF (h2 := ?_)
   apply G.skip
   apply G.seq
   apply G.seq
   refine G.dr mixed tab_ok ok_lawStepNetwork [0, 1, 2, 3, 4] (hk := ?_)
   refine G.fg [2, 3, 4, 8, 9, 10, 11, 12, 13, 17, 67, 98, 99, 100, 101, 102, 103, 104, 105, 106] (hk := ?_)
   refine G.iffF (h2 := ?_)
   apply G.skip
   apply G.seq
   refine G.rg tab_ok ok_lawStepNetwork (hk := ?_)
   apply G.seq
   refine G.rgN 2 tab_ok ok_lawStepNetwork (hk := ?_)
   refine G.cf [6, 7] en_markNetwork (markNetwork_mc _ ps ks 1 rfl (by omega) hbt hpl hkl) (h := ?_)
   refine G.rgC tab_ok ok_lawStepNetwork (hk := ?_)
   apply G.seq
   refine G.rgN 2 tab_ok ok_lawStepNetwork (hk := ?_)
   refine G.cf [9, 10, 11] en_markState (markState_mc _ xs qs hs t (1 + (tP ps : Int) + (tK ks : Int)) rfl (by omega) hqb2 hx40 hq40 hh40) (h := ?_)
   refine G.rgC tab_ok ok_lawStepNetwork (hk := ?_)
   apply G.seq
   apply G.seq
   refine G.rg tab_ok ok_lawStepNetwork (hk := ?_)
   refine G.fg [2, 3, 4, 8, 9, 12, 17, 86, 98, 99, 100, 101, 102, 103, 104, 105, 106] (hk := ?_)
   refine G.iffF (h2 := ?_)
   apply G.skip
   apply G.seq
   refine G.rg tab_ok ok_lawStepNetwork (hk := ?_)
   apply G.seq
   refine G.rgN 2 tab_ok ok_lawStepNetwork (hk := ?_)
   refine G.cf [13, 14, 15] en_markState (markState_mc _ O.xs O.qs O.hs O.t 1 rfl (by omega) hOb hO4 hO5 hO6) (h := ?_)
   refine G.rgC tab_ok ok_lawStepNetwork (hk := ?_)
   apply G.seq
   refine G.rg tab_ok ok_lawStepNetwork (hk := ?_)
   apply G.seq
   refine G.rg tab_ok ok_lawStepNetwork (hk := ?_)
   apply G.seq
   apply G.seq
   refine G.rg tab_ok ok_lawStepNetwork (hk := ?_)
   refine G.fg [2, 3, 4, 8, 9, 12, 15, 16, 17, 94, 98, 99, 100, 101, 102, 103, 104, 105, 106] (hk := ?_)
   refine G.iffF (h2 := ?_)
   apply G.skip
   apply G.seq
   apply G.seq
   refine G.rg tab_ok ok_lawStepNetwork (hk := ?_)
   refine G.iffF (h2 := ?_)
   apply G.skip
   apply G.seq
   apply G.joinR
   ·intro hk
    refine G.drawL (c := ⟨Tryz.prog, tab, _, _, _, _, _⟩) mixed tab_ok ok_lawStepNetwork 12 ?_ rfl
    refine AnyL.gg (n := 9) 3 [0, 2, 4] (h := ?_)
    refine AnyL.fk2 (n := 8) 1 9 (k1 := ?_) (k2 := ?_)
    ·skip
     refine AnyL.fk2 (n := 7) 3 9 (k1 := ?_) (k2 := ?_)
     ·skip
      refine AnyL.fk2 (n := 6) 5 9 (k1 := ?_) (k2 := ?_)
      ·skip
       refine AnyL.gg (n := 0) 6 [6, 7, 8, 9, 10, 11] (h := ?_)
       exact AnyL.ln [8, 9, 12, 15, 17, 18] (h := hk)
      ·skip
       refine AnyL.gg (n := 0) 6 [5, 6, 7, 8, 10, 11] (h := ?_)
       exact AnyL.ln [8, 9, 12, 15, 17, 18] (h := hk)
     ·skip
      refine AnyL.gg (n := 0) 7 [3, 5, 6, 7, 8, 10, 11] (h := ?_)
      exact AnyL.ln [8, 9, 12, 15, 17, 18] (h := hk)
    ·skip
     refine AnyL.gg (n := 0) 8 [1, 3, 5, 6, 7, 8, 10, 11] (h := ?_)
     exact AnyL.ln [8, 9, 12, 15, 17, 18] (h := hk)
   apply G.seq
   apply G.seq
   refine G.rg tab_ok ok_lawStepNetwork (hk := ?_)
   refine G.fg [12, 15, 115] (hk := ?_)
   refine G.iffF (h2 := ?_)
   apply G.skip
   apply G.seq
   refine G.rg tab_ok ok_lawStepNetwork (hk := ?_)
   apply G.seq
   refine G.rg tab_ok ok_lawStepNetwork (hk := ?_)
   apply G.seq
   apply G.seq
   refine G.rg tab_ok ok_lawStepNetwork (hk := ?_)
   refine G.iffF (h2 := ?_)
   apply G.skip
   apply G.seq
   apply G.seq
   refine G.rg tab_ok ok_lawStepNetwork (hk := ?_)
   refine G.fg [123] (hk := ?_)
   refine G.iffF (h2 := ?_)
   apply G.skip
   apply G.seq
   refine G.rg tab_ok ok_lawStepNetwork (hk := ?_)
   refine G.fin tab_ok (hr := ?_)
   rfl
end Go.Proofs.YtdcjlemkegifjaaGreat.Ab
