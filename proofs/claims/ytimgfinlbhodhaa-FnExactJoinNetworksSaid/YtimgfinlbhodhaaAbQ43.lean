/- Walks of functions. -/
import Derived.Test.YtimgfinlbhodhaaAbJ1
import Derived.Test.YtimgfinlbhodhaaAbJ3
import Derived.Test.YtimgfinlbhodhaaFwGh
namespace Go.Proofs.Ytimgfinlbhodhaa.Ab
open Go
set_option linter.unusedVariables false
set_option linter.unusedSimpArgs false
set_option maxHeartbeats 4000000
theorem ok_lawJoinNetworks : Kn.ok Try.prog (kof [(36, q_szNetwork), (38, q_toNetwork), (37, q_specJoinNetworks), (39, q_implJoinNetworks), (40, q_eqNetwork), (42, q_heldNetwork)]) := kof_cons k_szNetwork (kof_cons k_toNetwork (kof_cons k_specJoinNetworks (kof_cons k_implJoinNetworks (kof_cons k_eqNetwork (kof_cons k_heldNetwork ((kof_nil _)))))))
theorem en_markNetwork : Enters Try.prog 41 := enters_of Try.func41 rfl rfl
theorem lawJoinNetworks_ac (ps : List PG) (ks : List LK) (qs : List PG) (ls : List LK) (hc1 : NW ps) (hc2 : KW ks) (hc3 : ps.length < 3518437208781) (hc4 : ks.length < 2513169434844) (hc5 : NW qs) (hc6 : KW ls) (hc7 : qs.length < 3518437208781) (hc8 : ls.length < 2513169434844) : AC Try.prog 6 [.agg [.row false 3 (ps.map pv), .row false 5 (ks.map kv)], .agg [.row false 3 (qs.map pv), .row false 5 (ls.map kv)]] (.bool true) := by
 have e_szNetwork := e_szNetwork
 have e_toNetwork := e_toNetwork
 have e_specJoinNetworks := e_specJoinNetworks
 have e_implJoinNetworks := e_implJoinNetworks
 have e_eqNetwork := e_eqNetwork
 have e_heldNetwork := e_heldNetwork
 obtain ⟨b1, b2, b3, b4⟩ := join_bd ps ks qs ls
 obtain ⟨O, hO⟩ : ∃ x, joinO ps ks qs ls = x := ⟨_, rfl⟩
 rw [hO] at b1 b2 b3 b4
 have hOn : NW O.1 := fun p hp => by have := b3 p hp; omega
 have hOk : KW O.2.1 := fun x hx => by have := b4 x hx; omega
 have hOp : O.1.length < 3518437208781 := by omega
 have hOl : O.2.1.length < 2513169434844 := by omega
 have hO1 : O.1.length < 1099511627776 := by omega
 have hO2 : O.2.1.length < 1099511627776 := by omega
 have hOb := net_tot b1 b2 b3 b4
 have hml1 : O.1.length ≤ (mkPS 1 O.1).length := by rw [mkPS_len]; exact Nat.le_refl _
 have hml2 : O.2.1.length ≤ (mkKS (1 + (tP O.1 : Int)) O.2.1).length := by rw [mkKS_len]; exact Nat.le_refl _
 have hmk1 : List.take O.1.length ((mkPS 1 O.1).map opv) = (mkPS 1 O.1).map opv := List.take_of_length_le (by simp [mkPS_len])
 have hmk2 : List.take O.2.1.length ((mkKS (1 + (tP O.1 : Int)) O.2.1).map okv) = (mkKS (1 + (tP O.1 : Int)) O.2.1).map okv := List.take_of_length_le (by simp [mkKS_len])
 have hmp1 : (mkPS 1 O.1).length < 1099511627776 := by rw [mkPS_len]; omega
 have hmp2 : (mkKS (1 + (tP O.1 : Int)) O.2.1).length < 1099511627776 := by rw [mkKS_len]; omega
 have hmt : (1 : Int) + (tP (mkPS 1 O.1) : Int) + (tK (mkKS (1 + (tP O.1 : Int)) O.2.1) : Int) ≤ 1048576000 := by rw [mkPS_tot, mkKS_tot]; exact hOb
 have hhN : heldN 1 (mkPS 1 O.1) (mkKS (1 + (tP O.1 : Int)) O.2.1) = 1 + (tP O.1 : Int) + (tK O.2.1 : Int) := heldN_mk 1 (by omega) _ _
 have hnO : ¬ ((1 : Int) + (tP O.1 : Int) + (tK O.2.1 : Int) < 0) := by omega
 clear b1 b2 b3 b4
 have hsz2 := szNet_le (n := 1048576) (ps := ps) (ks := ks) (by omega)
 refine AC.of tab_ok Try.func6 rfl (Nat.le_of_ble_eq_true rfl) fun w0 S0 => ?_
 change G _ _ ⟨[(0, .agg [.row false 3 (ps.map pv), .row false 5 (ks.map kv)]), (1, .agg [.row false 3 (qs.map pv), .row false 5 (ls.map kv)])], [], 119⟩
 apply G.seq
 refine G.rg tab_ok ok_lawJoinNetworks (hk := ?_)
 apply G.seq
 refine G.rg tab_ok ok_lawJoinNetworks (hk := ?_)
 apply G.seq
 refine G.rg tab_ok ok_lawJoinNetworks (hk := ?_)
 apply G.seq
 apply G.seq
 refine G.rg tab_ok ok_lawJoinNetworks (hk := ?_)
 refine G.fg [2, 3, 5, 6, 15, 21, 27, 28, 29, 30, 31, 32, 33, 34, 54, 55, 56, 57, 59, 60, 61, 62, 94, 95, 96, 97, 98, 99, 100, 101] (hk := ?_)
 refine G.iff (h1 := fun h1 => ?_) (h2 := fun h1 => ?_)
 ·try simp only [zqz] at h1
  apply G.seq
  refine G.rg tab_ok ok_lawJoinNetworks (hk := ?_)
  refine G.fin tab_ok (hr := ?_)
  rfl
 ·try simp only [zqz] at h1
  apply G.skip
  apply G.seq
  refine G.rg tab_ok ok_lawJoinNetworks (hk := ?_)
  apply G.seq
  apply G.seq
  refine G.rg tab_ok ok_lawJoinNetworks (hk := ?_)
  refine G.iff (h1 := fun h2 => ?_) (h2 := fun h2 => ?_)
  ·try simp only [zqz] at h2
   apply G.seq
   refine G.rg tab_ok ok_lawJoinNetworks (hk := ?_)
   refine G.fin tab_ok (hr := ?_)
   rfl
  ·try simp only [zqz] at h2
   apply G.skip
   apply G.seq
   have hszo := szNet_ok (n := 1048576) (ps := ps) (ks := ks) (by omega)
   have htp := tP_eq ps
   have htk0 := tK_eq ks
   have hps20 : ps.length ≤ 1048576 := by omega
   have hks20 : ks.length ≤ 1048576 := by omega
   have hpl : ps.length < 1099511627776 := by omega
   have hkl : ks.length < 1099511627776 := by omega
   have hbt : (1 : Int) + (tP ps : Int) + (tK ks : Int) ≤ 1048576000 := by omega
   have hn1 : ¬ ((1 : Int) + (tP ps : Int) + (tK ks : Int) < 0) := by omega
   skip
   have hszo2 := szNet_ok (n := szNet 1048576 ps ks) (ps := qs) (ks := ls) (by omega)
   have htp2 := tP_eq qs
   have htk2 := tK_eq ls
   have hqs20 : qs.length ≤ 1048576 := by omega
   have hls20 : ls.length ≤ 1048576 := by omega
   have hql : qs.length < 1099511627776 := by omega
   have hll : ls.length < 1099511627776 := by omega
   have hq1 : (0 : Int) ≤ 1 + (tP ps : Int) + (tK ks : Int) := by omega
   have hbt2 : (1 : Int) + (tP ps : Int) + (tK ks : Int) + (tP qs : Int) + (tK ls : Int) ≤ 1048576000 := by omega
   have hn4 : ¬ ((1 : Int) + (tP ps : Int) + (tK ks : Int) + (tP qs : Int) + (tK ls : Int) < 0) := by omega
   clear hszo2 htp2 htk2
   clear hszo htp htk0
   apply G.joinR
   ·intro hk
    refine G.drawL (c := ⟨Try.prog, tab, _, _, _, _, _⟩) mixed tab_ok ok_lawJoinNetworks 11 ?_ rfl
    refine AnyL.gg (n := 9) 2 [0, 2] (h := ?_)
    refine AnyL.fk2 (n := 8) 1 8 (k1 := ?_) (k2 := ?_)
    ·skip
     refine AnyL.fk2 (n := 7) 3 8 (k1 := ?_) (k2 := ?_)
     ·skip
      refine AnyL.fk2 (n := 6) 4 8 (k1 := ?_) (k2 := ?_)
      ·skip
       refine AnyL.gg (n := 0) 6 [5, 6, 7, 8, 9, 10] (h := ?_)
       exact AnyL.ln [2, 3, 6, 7, 15, 54, 55, 56, 57, 59, 60, 61, 62, 94, 95, 96, 97, 98, 99, 100, 101] (h := hk)
      ·skip
       refine AnyL.gg (n := 0) 6 [4, 5, 6, 7, 9, 10] (h := ?_)
       exact AnyL.ln [2, 3, 6, 7, 15, 54, 55, 56, 57, 59, 60, 61, 62, 94, 95, 96, 97, 98, 99, 100, 101] (h := hk)
     ·skip
      refine AnyL.gg (n := 0) 7 [3, 4, 5, 6, 7, 9, 10] (h := ?_)
      exact AnyL.ln [2, 3, 6, 7, 15, 54, 55, 56, 57, 59, 60, 61, 62, 94, 95, 96, 97, 98, 99, 100, 101] (h := hk)
    ·skip
     refine AnyL.gg (n := 0) 8 [1, 3, 4, 5, 6, 7, 9, 10] (h := ?_)
     exact AnyL.ln [2, 3, 6, 7, 15, 54, 55, 56, 57, 59, 60, 61, 62, 94, 95, 96, 97, 98, 99, 100, 101] (h := hk)
   apply G.seq
   refine G.rg tab_ok ok_lawJoinNetworks (hk := ?_)
   apply G.seq
   refine G.rg tab_ok ok_lawJoinNetworks (hk := ?_)
   apply G.seq
   refine G.rg tab_ok ok_lawJoinNetworks (hk := ?_)
   apply G.seq
   apply G.seq
   refine G.fg [2, 3, 6, 7, 8, 9, 10, 11, 15, 54, 55, 56, 57, 59, 60, 61, 62, 94, 95, 96, 97, 98, 99, 100, 101] (hk := ?_)
   refine G.rg tab_ok ok_lawJoinNetworks (hk := ?_)
   refine G.fg [2, 3, 6, 7, 8, 9, 10, 11, 15, 53, 54, 55, 56, 57, 59, 60, 61, 62, 94, 95, 96, 97, 98, 99, 100, 101] (hk := ?_)
   refine G.iffF (h2 := ?_)
   apply G.skip
   apply G.seq
   apply G.seq
   refine G.dr mixed tab_ok ok_lawJoinNetworks [0, 1, 2, 3, 4] (hk := ?_)
   refine G.iffF (h2 := ?_)
   apply G.skip
   apply G.seq
   apply G.seq
   refine G.dr mixed tab_ok ok_lawJoinNetworks [0, 1, 2, 3, 4] (hk := ?_)
   refine G.fg [2, 3, 6, 7, 8, 9, 10, 11, 15, 63, 94, 95, 96, 97, 98, 99, 100, 101] (hk := ?_)
   refine G.iffF (h2 := ?_)
   apply G.skip
   apply G.seq
   refine G.rg tab_ok ok_lawJoinNetworks (hk := ?_)
   apply G.seq
   refine G.rgN 2 tab_ok ok_lawJoinNetworks (hk := ?_)
   refine G.cf [5, 6] en_markNetwork (markNetwork_mc _ ps ks 1 rfl (by omega) hbt hpl hkl) (h := ?_)
   refine G.rgC tab_ok ok_lawJoinNetworks (hk := ?_)
   apply G.seq
   refine G.rgN 2 tab_ok ok_lawJoinNetworks (hk := ?_)
   refine G.cf [8, 9] en_markNetwork (markNetwork_mc _ qs ls (1 + (tP ps : Int) + (tK ks : Int)) rfl hq1 hbt2 hql hll) (h := ?_)
   refine G.rgC tab_ok ok_lawJoinNetworks (hk := ?_)
   apply G.seq
   apply G.seq
   refine G.rg tab_ok ok_lawJoinNetworks (hk := ?_)
   refine G.fg [2, 3, 6, 7, 10, 15, 82, 94, 95, 96, 97, 98, 99, 100, 101] (hk := ?_)
   refine G.iffF (h2 := ?_)
   apply G.skip
   apply G.seq
   refine G.rg tab_ok ok_lawJoinNetworks (hk := ?_)
   apply G.seq
   refine G.rgN 2 tab_ok ok_lawJoinNetworks (hk := ?_)
   refine G.cf [11, 12] en_markNetwork (markNetwork_mc _ O.1 O.2.1 1 rfl (by omega) hOb hO1 hO2) (h := ?_)
   refine G.rgC tab_ok ok_lawJoinNetworks (hk := ?_)
   apply G.seq
   refine G.rg tab_ok ok_lawJoinNetworks (hk := ?_)
   apply G.seq
   refine G.rg tab_ok ok_lawJoinNetworks (hk := ?_)
   apply G.seq
   apply G.seq
   refine G.rg tab_ok ok_lawJoinNetworks (hk := ?_)
   refine G.fg [2, 3, 6, 7, 10, 13, 14, 15, 90, 94, 95, 96, 97, 98, 99, 100, 101] (hk := ?_)
   refine G.iffF (h2 := ?_)
   apply G.skip
   apply G.seq
   apply G.seq
   refine G.rg tab_ok ok_lawJoinNetworks (hk := ?_)
   refine G.iffF (h2 := ?_)
   apply G.skip
   apply G.seq
   apply G.joinR
   ·intro hk
    refine G.drawL (c := ⟨Try.prog, tab, _, _, _, _, _⟩) mixed tab_ok ok_lawJoinNetworks 11 ?_ rfl
    refine AnyL.gg (n := 9) 2 [0, 2] (h := ?_)
    refine AnyL.fk2 (n := 8) 1 8 (k1 := ?_) (k2 := ?_)
    ·skip
     refine AnyL.fk2 (n := 7) 3 8 (k1 := ?_) (k2 := ?_)
     ·skip
      refine AnyL.fk2 (n := 6) 4 8 (k1 := ?_) (k2 := ?_)
      ·skip
       refine AnyL.gg (n := 0) 6 [5, 6, 7, 8, 9, 10] (h := ?_)
       exact AnyL.ln [6, 7, 10, 13, 15, 16] (h := hk)
      ·skip
       refine AnyL.gg (n := 0) 6 [4, 5, 6, 7, 9, 10] (h := ?_)
       exact AnyL.ln [6, 7, 10, 13, 15, 16] (h := hk)
     ·skip
      refine AnyL.gg (n := 0) 7 [3, 4, 5, 6, 7, 9, 10] (h := ?_)
      exact AnyL.ln [6, 7, 10, 13, 15, 16] (h := hk)
    ·skip
     refine AnyL.gg (n := 0) 8 [1, 3, 4, 5, 6, 7, 9, 10] (h := ?_)
     exact AnyL.ln [6, 7, 10, 13, 15, 16] (h := hk)
   apply G.seq
   apply G.seq
   refine G.rg tab_ok ok_lawJoinNetworks (hk := ?_)
   refine G.fg [10, 13, 110] (hk := ?_)
   refine G.iffF (h2 := ?_)
   apply G.skip
   apply G.seq
   refine G.rg tab_ok ok_lawJoinNetworks (hk := ?_)
   apply G.seq
   refine G.rg tab_ok ok_lawJoinNetworks (hk := ?_)
   apply G.seq
   apply G.seq
   refine G.rg tab_ok ok_lawJoinNetworks (hk := ?_)
   refine G.iffF (h2 := ?_)
   apply G.skip
   apply G.seq
   apply G.seq
   refine G.rg tab_ok ok_lawJoinNetworks (hk := ?_)
   refine G.fg [118] (hk := ?_)
   refine G.iffF (h2 := ?_)
   apply G.skip
   apply G.seq
   refine G.rg tab_ok ok_lawJoinNetworks (hk := ?_)
   refine G.fin tab_ok (hr := ?_)
   rfl
end Go.Proofs.Ytimgfinlbhodhaa.Ab
