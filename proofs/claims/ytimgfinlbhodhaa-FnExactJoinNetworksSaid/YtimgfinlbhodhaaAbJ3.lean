/- Walks of functions. -/
import Derived.Test.YtimgfinlbhodhaaAbJ2
namespace Go.Proofs.Ytimgfinlbhodhaa.Ab
open Go
set_option linter.unusedVariables false
set_option linter.unusedSimpArgs false
set_option maxHeartbeats 4000000
theorem ok_implJoinNetworks : Kn.ok Try.prog (kof [(70, q_implIsNetwork), (110, q_concatP), (111, q_cloneK), (112, q_checked)]) := kof_cons k_implIsNetwork (kof_cons k_concatP (kof_cons k_cloneK (kof_cons k_checked ((kof_nil _)))))
theorem implJoinNetworks_ac (ps : List PG) (ks : List LK) (qs : List PG) (ls : List LK) (hc1 : NW ps) (hc2 : KW ks) (hc3 : ps.length < 3518437208781) (hc4 : ks.length < 2513169434844) (hc5 : NW qs) (hc6 : KW ls) (hc7 : qs.length < 3518437208781) (hc8 : ls.length < 2513169434844) : AC Try.prog 39 [.agg [.row false 3 (ps.map pv), .row false 5 (ks.map kv)], .agg [.row false 3 (qs.map pv), .row false 5 (ls.map kv)]] (.tup [.agg [.row true 3 ((joinO ps ks qs ls).1.map opv), .row true 5 ((joinO ps ks qs ls).2.1.map okv)], .bool (joinO ps ks qs ls).2.2]) := by
 have e_implIsNetwork := e_implIsNetwork
 have e_concatP := e_concatP
 have e_cloneK := e_cloneK
 have e_checked := e_checked
 have hpe := ppv_eq
 refine AC.of tab_ok Try.func39 rfl (Nat.le_of_ble_eq_true rfl) fun w0 S0 => ?_
 change G _ _ ⟨[(0, .agg [.row false 3 (ps.map pv), .row false 5 (ks.map kv)]), (1, .agg [.row false 3 (qs.map pv), .row false 5 (ls.map kv)])], [], 66⟩
 apply G.seq
 refine G.rg tab_ok ok_implJoinNetworks (hk := ?_)
 apply G.seq
 apply G.seq
 rcases (show netOk ps ks = false ∨ (netOk ps ks = true ∧ netOk qs ls = false) ∨ (netOk ps ks = true ∧ netOk qs ls = true) by cases netOk ps ks <;> cases netOk qs ls <;> simp) with c1 | ⟨c1, c2⟩ | ⟨hnk, hnk2⟩
 ·skip
  refine G.rg tab_ok ok_implJoinNetworks (hk := ?_)
  refine G.iffT (h1 := ?_)
  apply G.seq
  refine G.rg tab_ok ok_implJoinNetworks (hk := ?_)
  refine G.focusNil 2 0 0 3 rfl rfl rfl ?_
  simp only [withH]
  refine G.focusNil 2 0 1 5 rfl rfl rfl ?_
  simp only [withH]
  refine G.fin tab_ok (hr := ?_)
  simp only [oneOrTup, join_a c1]
  rfl
 ·skip
  refine G.rg tab_ok ok_implJoinNetworks (hk := ?_)
  refine G.iffT (h1 := ?_)
  apply G.seq
  refine G.rg tab_ok ok_implJoinNetworks (hk := ?_)
  refine G.focusNil 2 0 0 3 rfl rfl rfl ?_
  simp only [withH]
  refine G.focusNil 2 0 1 5 rfl rfl rfl ?_
  simp only [withH]
  refine G.fin tab_ok (hr := ?_)
  simp only [oneOrTup, join_b c2]
  rfl
 ·skip
  have hnw := netOk_w hnk
  have hp12 := hnw.pl
  have hk30 := hnw.kl
  have hnw2 := netOk_w hnk2
  have hq12 := hnw2.pl
  have hl30 := hnw2.kl
  have hsm := net_small hnk2
  refine G.rg tab_ok ok_implJoinNetworks (hk := ?_)
  refine G.iffF (h2 := ?_)
  apply G.skip
  apply G.seq
  have e_cc : q_concatP [.row false 1 [[.row false 3 (ps.map pv)], [.row false 3 (qs.map pv)]]] = some (.row true 3 ((ps ++ qs).map pv)) := by
   have := e_concatP [ps, qs] (by simp) (by simp only [List.flatten_cons, List.flatten_nil, List.append_nil, List.length_append]; omega)
   simpa [ppv] using this
  obtain ⟨P, hP⟩ : ∃ z, ps ++ qs = z := ⟨_, rfl⟩
  rw [hP] at e_cc
  have hPt : List.take P.length (P.map pv) = P.map pv := List.take_of_length_le (by simp)
  have hksl : ks.length ≤ 1048576 := by omega
  apply G.joinR
  ·intro hk
   refine G.drawF (c := ⟨Try.prog, tab, _, _, _, _, _⟩) mixed tab_ok ok_implJoinNetworks 5 12 ?_ rfl
   refine AnyF.gg (n := 8) 4 [0, 1, 2, 3] (h := ?_)
   refine AnyF.f3 (n := 7) 4 6 10 (k1 := ?_) (k2 := ?_) (k3 := ?_)
   ·refine AnyF.fk3 (n := 6) 6 10 (k1 := ?_) (k2 := ?_) (k3 := ?_)
    ·refine G.freeze 22 3 rfl rfl ?_
     simp only [List.set_cons_succ, List.set_cons_zero, List.length_cons, List.length_nil, roLL, roL, ro]
     refine G.rdN 1 tab_ok ok_implJoinNetworks (hk := ?_)
     refine AnyF.sem tab_ok ok_implJoinNetworks ?_
     refine AnyL.gg (n := 4) 2 [6, 7] (h := ?_)
     refine AnyL.fk2 (n := 3) 8 10 (k1 := ?_) (k2 := ?_)
     ·refine AnyL.gg (n := 0) 3 [9, 10, 11] (h := ?_)
      exact AnyL.ln [2, 3, 4, 6] (h := hk)
     ·refine AnyL.gg (n := 0) 3 [8, 9, 11] (h := ?_)
      exact AnyL.ln [2, 3, 4, 6] (h := hk)
    ·refine AnyF.fk3 (n := 5) 7 10 (k1 := ?_) (k2 := ?_) (k3 := ?_)
     ·refine G.freeze 22 3 rfl rfl ?_
      simp only [List.set_cons_succ, List.set_cons_zero, List.length_cons, List.length_nil, roLL, roL, ro]
      refine G.rdN 1 tab_ok ok_implJoinNetworks (hk := ?_)
      refine AnyF.sem tab_ok ok_implJoinNetworks ?_
      refine AnyL.gg (n := 4) 1 [7] (h := ?_)
      refine AnyL.fk2 (n := 3) 8 10 (k1 := ?_) (k2 := ?_)
      ·refine AnyL.gg (n := 0) 3 [9, 10, 11] (h := ?_)
       exact AnyL.ln [2, 3, 4, 6] (h := hk)
      ·refine AnyL.gg (n := 0) 3 [8, 9, 11] (h := ?_)
       exact AnyL.ln [2, 3, 4, 6] (h := hk)
     ·refine AnyF.fk (n := 4) 10 (k1 := ?_) (k2 := ?_)
      ·refine G.freeze 22 3 rfl rfl ?_
       simp only [List.set_cons_succ, List.set_cons_zero, List.length_cons, List.length_nil, roLL, roL, ro]
       refine G.rdN 1 tab_ok ok_implJoinNetworks (hk := ?_)
       refine AnyF.sem tab_ok ok_implJoinNetworks ?_
       refine AnyL.fk2 (n := 3) 8 10 (k1 := ?_) (k2 := ?_)
       ·refine AnyL.gg (n := 0) 3 [9, 10, 11] (h := ?_)
        exact AnyL.ln [2, 3, 4, 6] (h := hk)
       ·refine AnyL.gg (n := 0) 3 [8, 9, 11] (h := ?_)
        exact AnyL.ln [2, 3, 4, 6] (h := hk)
      ·refine AnyF.o1 (n := 3) (k1 := ?_)
       refine G.freeze 22 3 rfl rfl ?_
       simp only [List.set_cons_succ, List.set_cons_zero, List.length_cons, List.length_nil, roLL, roL, ro]
       refine G.rdN 1 tab_ok ok_implJoinNetworks (hk := ?_)
       refine AnyF.sem tab_ok ok_implJoinNetworks ?_
       refine AnyL.gg (n := 0) 3 [8, 9, 11] (h := ?_)
       exact AnyL.ln [2, 3, 4, 6] (h := hk)
     ·refine AnyF.fk (n := 4) 7 (k1 := ?_) (k2 := ?_)
      ·refine G.freeze 22 3 rfl rfl ?_
       simp only [List.set_cons_succ, List.set_cons_zero, List.length_cons, List.length_nil, roLL, roL, ro]
       refine G.rdN 1 tab_ok ok_implJoinNetworks (hk := ?_)
       refine AnyF.sem tab_ok ok_implJoinNetworks ?_
       refine AnyL.gg (n := 3) 1 [7] (h := ?_)
       refine AnyL.gg (n := 0) 3 [8, 9, 11] (h := ?_)
       exact AnyL.ln [2, 3, 4, 6] (h := hk)
      ·refine AnyF.o1 (n := 3) (k1 := ?_)
       refine G.freeze 22 3 rfl rfl ?_
       simp only [List.set_cons_succ, List.set_cons_zero, List.length_cons, List.length_nil, roLL, roL, ro]
       refine G.rdN 1 tab_ok ok_implJoinNetworks (hk := ?_)
       refine AnyF.sem tab_ok ok_implJoinNetworks ?_
       refine AnyL.gg (n := 0) 3 [8, 9, 11] (h := ?_)
       exact AnyL.ln [2, 3, 4, 6] (h := hk)
    ·refine AnyF.fk (n := 5) 6 (k1 := ?_) (k2 := ?_)
     ·refine G.freeze 22 3 rfl rfl ?_
      simp only [List.set_cons_succ, List.set_cons_zero, List.length_cons, List.length_nil, roLL, roL, ro]
      refine G.rdN 1 tab_ok ok_implJoinNetworks (hk := ?_)
      refine AnyF.sem tab_ok ok_implJoinNetworks ?_
      refine AnyL.gg (n := 3) 2 [6, 7] (h := ?_)
      refine AnyL.gg (n := 0) 3 [8, 9, 11] (h := ?_)
      exact AnyL.ln [2, 3, 4, 6] (h := hk)
     ·refine AnyF.fk (n := 4) 7 (k1 := ?_) (k2 := ?_)
      ·refine G.freeze 22 3 rfl rfl ?_
       simp only [List.set_cons_succ, List.set_cons_zero, List.length_cons, List.length_nil, roLL, roL, ro]
       refine G.rdN 1 tab_ok ok_implJoinNetworks (hk := ?_)
       refine AnyF.sem tab_ok ok_implJoinNetworks ?_
       refine AnyL.gg (n := 3) 1 [7] (h := ?_)
       refine AnyL.gg (n := 0) 3 [8, 9, 11] (h := ?_)
       exact AnyL.ln [2, 3, 4, 6] (h := hk)
      ·refine AnyF.o1 (n := 3) (k1 := ?_)
       refine G.freeze 22 3 rfl rfl ?_
       simp only [List.set_cons_succ, List.set_cons_zero, List.length_cons, List.length_nil, roLL, roL, ro]
       refine G.rdN 1 tab_ok ok_implJoinNetworks (hk := ?_)
       refine AnyF.sem tab_ok ok_implJoinNetworks ?_
       refine AnyL.gg (n := 0) 3 [8, 9, 11] (h := ?_)
       exact AnyL.ln [2, 3, 4, 6] (h := hk)
   ·refine AnyF.f3 (n := 6) 4 7 10 (k1 := ?_) (k2 := ?_) (k3 := ?_)
    ·refine AnyF.fk3 (n := 5) 7 10 (k1 := ?_) (k2 := ?_) (k3 := ?_)
     ·refine G.freeze 22 3 rfl rfl ?_
      simp only [List.set_cons_succ, List.set_cons_zero, List.length_cons, List.length_nil, roLL, roL, ro]
      refine G.rdN 1 tab_ok ok_implJoinNetworks (hk := ?_)
      refine AnyF.sem tab_ok ok_implJoinNetworks ?_
      refine AnyL.gg (n := 4) 1 [7] (h := ?_)
      refine AnyL.fk2 (n := 3) 8 10 (k1 := ?_) (k2 := ?_)
      ·refine AnyL.gg (n := 0) 3 [9, 10, 11] (h := ?_)
       exact AnyL.ln [2, 3, 4, 6] (h := hk)
      ·refine AnyL.gg (n := 0) 3 [8, 9, 11] (h := ?_)
       exact AnyL.ln [2, 3, 4, 6] (h := hk)
     ·refine AnyF.fk (n := 4) 10 (k1 := ?_) (k2 := ?_)
      ·refine G.freeze 22 3 rfl rfl ?_
       simp only [List.set_cons_succ, List.set_cons_zero, List.length_cons, List.length_nil, roLL, roL, ro]
       refine G.rdN 1 tab_ok ok_implJoinNetworks (hk := ?_)
       refine AnyF.sem tab_ok ok_implJoinNetworks ?_
       refine AnyL.fk2 (n := 3) 8 10 (k1 := ?_) (k2 := ?_)
       ·refine AnyL.gg (n := 0) 3 [9, 10, 11] (h := ?_)
        exact AnyL.ln [2, 3, 4, 6] (h := hk)
       ·refine AnyL.gg (n := 0) 3 [8, 9, 11] (h := ?_)
        exact AnyL.ln [2, 3, 4, 6] (h := hk)
      ·refine AnyF.o1 (n := 3) (k1 := ?_)
       refine G.freeze 22 3 rfl rfl ?_
       simp only [List.set_cons_succ, List.set_cons_zero, List.length_cons, List.length_nil, roLL, roL, ro]
       refine G.rdN 1 tab_ok ok_implJoinNetworks (hk := ?_)
       refine AnyF.sem tab_ok ok_implJoinNetworks ?_
       refine AnyL.gg (n := 0) 3 [8, 9, 11] (h := ?_)
       exact AnyL.ln [2, 3, 4, 6] (h := hk)
     ·refine AnyF.fk (n := 4) 7 (k1 := ?_) (k2 := ?_)
      ·refine G.freeze 22 3 rfl rfl ?_
       simp only [List.set_cons_succ, List.set_cons_zero, List.length_cons, List.length_nil, roLL, roL, ro]
       refine G.rdN 1 tab_ok ok_implJoinNetworks (hk := ?_)
       refine AnyF.sem tab_ok ok_implJoinNetworks ?_
       refine AnyL.gg (n := 3) 1 [7] (h := ?_)
       refine AnyL.gg (n := 0) 3 [8, 9, 11] (h := ?_)
       exact AnyL.ln [2, 3, 4, 6] (h := hk)
      ·refine AnyF.o1 (n := 3) (k1 := ?_)
       refine G.freeze 22 3 rfl rfl ?_
       simp only [List.set_cons_succ, List.set_cons_zero, List.length_cons, List.length_nil, roLL, roL, ro]
       refine G.rdN 1 tab_ok ok_implJoinNetworks (hk := ?_)
       refine AnyF.sem tab_ok ok_implJoinNetworks ?_
       refine AnyL.gg (n := 0) 3 [8, 9, 11] (h := ?_)
       exact AnyL.ln [2, 3, 4, 6] (h := hk)
    ·refine AnyF.f2 (n := 5) 4 10 (k1 := ?_) (k2 := ?_)
     ·refine AnyF.fk (n := 4) 10 (k1 := ?_) (k2 := ?_)
      ·refine G.freeze 22 3 rfl rfl ?_
       simp only [List.set_cons_succ, List.set_cons_zero, List.length_cons, List.length_nil, roLL, roL, ro]
       refine G.rdN 1 tab_ok ok_implJoinNetworks (hk := ?_)
       refine AnyF.sem tab_ok ok_implJoinNetworks ?_
       refine AnyL.fk2 (n := 3) 8 10 (k1 := ?_) (k2 := ?_)
       ·refine AnyL.gg (n := 0) 3 [9, 10, 11] (h := ?_)
        exact AnyL.ln [2, 3, 4, 6] (h := hk)
       ·refine AnyL.gg (n := 0) 3 [8, 9, 11] (h := ?_)
        exact AnyL.ln [2, 3, 4, 6] (h := hk)
      ·refine AnyF.o1 (n := 3) (k1 := ?_)
       refine G.freeze 22 3 rfl rfl ?_
       simp only [List.set_cons_succ, List.set_cons_zero, List.length_cons, List.length_nil, roLL, roL, ro]
       refine G.rdN 1 tab_ok ok_implJoinNetworks (hk := ?_)
       refine AnyF.sem tab_ok ok_implJoinNetworks ?_
       refine AnyL.gg (n := 0) 3 [8, 9, 11] (h := ?_)
       exact AnyL.ln [2, 3, 4, 6] (h := hk)
     ·refine AnyF.on (n := 4) 4 (k1 := ?_)
      refine AnyF.o1 (n := 3) (k1 := ?_)
      refine G.freeze 22 4 rfl rfl ?_
      simp only [List.set_cons_succ, List.set_cons_zero, List.length_cons, List.length_nil, roLL, roL, ro]
      refine G.rdN 1 tab_ok ok_implJoinNetworks (hk := ?_)
      refine AnyF.sem tab_ok ok_implJoinNetworks ?_
      refine AnyL.gg (n := 0) 3 [8, 9, 11] (h := ?_)
      exact AnyL.ln [2, 3, 4, 6] (h := hk)
    ·refine AnyF.f2 (n := 5) 4 7 (k1 := ?_) (k2 := ?_)
     ·refine AnyF.fk (n := 4) 7 (k1 := ?_) (k2 := ?_)
      ·refine G.freeze 22 4 rfl rfl ?_
       simp only [List.set_cons_succ, List.set_cons_zero, List.length_cons, List.length_nil, roLL, roL, ro]
       refine G.rdN 1 tab_ok ok_implJoinNetworks (hk := ?_)
       refine AnyF.sem tab_ok ok_implJoinNetworks ?_
       refine AnyL.gg (n := 3) 1 [7] (h := ?_)
       refine AnyL.gg (n := 0) 3 [8, 9, 11] (h := ?_)
       exact AnyL.ln [2, 3, 4, 6] (h := hk)
      ·refine AnyF.o1 (n := 3) (k1 := ?_)
       refine G.freeze 22 4 rfl rfl ?_
       simp only [List.set_cons_succ, List.set_cons_zero, List.length_cons, List.length_nil, roLL, roL, ro]
       refine G.rdN 1 tab_ok ok_implJoinNetworks (hk := ?_)
       refine AnyF.sem tab_ok ok_implJoinNetworks ?_
       refine AnyL.gg (n := 0) 3 [8, 9, 11] (h := ?_)
       exact AnyL.ln [2, 3, 4, 6] (h := hk)
     ·refine AnyF.on (n := 4) 4 (k1 := ?_)
      refine AnyF.o1 (n := 3) (k1 := ?_)
      refine G.freeze 22 4 rfl rfl ?_
      simp only [List.set_cons_succ, List.set_cons_zero, List.length_cons, List.length_nil, roLL, roL, ro]
      refine G.rdN 1 tab_ok ok_implJoinNetworks (hk := ?_)
      refine AnyF.sem tab_ok ok_implJoinNetworks ?_
      refine AnyL.gg (n := 0) 3 [8, 9, 11] (h := ?_)
      exact AnyL.ln [2, 3, 4, 6] (h := hk)
   ·refine AnyF.f2 (n := 6) 4 6 (k1 := ?_) (k2 := ?_)
    ·refine AnyF.fk (n := 5) 6 (k1 := ?_) (k2 := ?_)
     ·refine G.freeze 22 4 rfl rfl ?_
      simp only [List.set_cons_succ, List.set_cons_zero, List.length_cons, List.length_nil, roLL, roL, ro]
      refine G.rdN 1 tab_ok ok_implJoinNetworks (hk := ?_)
      refine AnyF.sem tab_ok ok_implJoinNetworks ?_
      refine AnyL.gg (n := 3) 2 [6, 7] (h := ?_)
      refine AnyL.gg (n := 0) 3 [8, 9, 11] (h := ?_)
      exact AnyL.ln [2, 3, 4, 6] (h := hk)
     ·refine AnyF.fk (n := 4) 7 (k1 := ?_) (k2 := ?_)
      ·refine G.freeze 22 4 rfl rfl ?_
       simp only [List.set_cons_succ, List.set_cons_zero, List.length_cons, List.length_nil, roLL, roL, ro]
       refine G.rdN 1 tab_ok ok_implJoinNetworks (hk := ?_)
       refine AnyF.sem tab_ok ok_implJoinNetworks ?_
       refine AnyL.gg (n := 3) 1 [7] (h := ?_)
       refine AnyL.gg (n := 0) 3 [8, 9, 11] (h := ?_)
       exact AnyL.ln [2, 3, 4, 6] (h := hk)
      ·refine AnyF.o1 (n := 3) (k1 := ?_)
       refine G.freeze 22 4 rfl rfl ?_
       simp only [List.set_cons_succ, List.set_cons_zero, List.length_cons, List.length_nil, roLL, roL, ro]
       refine G.rdN 1 tab_ok ok_implJoinNetworks (hk := ?_)
       refine AnyF.sem tab_ok ok_implJoinNetworks ?_
       refine AnyL.gg (n := 0) 3 [8, 9, 11] (h := ?_)
       exact AnyL.ln [2, 3, 4, 6] (h := hk)
    ·refine AnyF.f2 (n := 5) 4 7 (k1 := ?_) (k2 := ?_)
     ·refine AnyF.fk (n := 4) 7 (k1 := ?_) (k2 := ?_)
      ·refine G.freeze 22 4 rfl rfl ?_
       simp only [List.set_cons_succ, List.set_cons_zero, List.length_cons, List.length_nil, roLL, roL, ro]
       refine G.rdN 1 tab_ok ok_implJoinNetworks (hk := ?_)
       refine AnyF.sem tab_ok ok_implJoinNetworks ?_
       refine AnyL.gg (n := 3) 1 [7] (h := ?_)
       refine AnyL.gg (n := 0) 3 [8, 9, 11] (h := ?_)
       exact AnyL.ln [2, 3, 4, 6] (h := hk)
      ·refine AnyF.o1 (n := 3) (k1 := ?_)
       refine G.freeze 22 4 rfl rfl ?_
       simp only [List.set_cons_succ, List.set_cons_zero, List.length_cons, List.length_nil, roLL, roL, ro]
       refine G.rdN 1 tab_ok ok_implJoinNetworks (hk := ?_)
       refine AnyF.sem tab_ok ok_implJoinNetworks ?_
       refine AnyL.gg (n := 0) 3 [8, 9, 11] (h := ?_)
       exact AnyL.ln [2, 3, 4, 6] (h := hk)
     ·refine AnyF.on (n := 4) 4 (k1 := ?_)
      refine AnyF.o1 (n := 3) (k1 := ?_)
      refine G.freeze 22 4 rfl rfl ?_
      simp only [List.set_cons_succ, List.set_cons_zero, List.length_cons, List.length_nil, roLL, roL, ro]
      refine G.rdN 1 tab_ok ok_implJoinNetworks (hk := ?_)
      refine AnyF.sem tab_ok ok_implJoinNetworks ?_
      refine AnyL.gg (n := 0) 3 [8, 9, 11] (h := ?_)
      exact AnyL.ln [2, 3, 4, 6] (h := hk)
  apply G.seq
  apply G.seq
  refine G.rg tab_ok ok_implJoinNetworks (hk := ?_)
  apply G.block
  refine G.nm [2, 4, 6, 29, 30, 31] (h := ?_)
  refine G.loopX (fun j : Nat => ⟨[(2, .ptr 0 0 0), (4, .ptr 1 0 0), (6, .ptr 2 0 0), (29, .row false 5 (ls.map kv)), (30, .int .i64 ls.length), (31, .int .i64 j)], [some (2, [[.row false 3 (ps.map pv), .row false 5 (ks.map kv)]]), some (2, [[.nils, .nils]]), some (2, [[.sl 3 0 P.length, .sl 4 0 (jK (ps.length : Int) ks ls j).length]]), some (3, P.map pv), some (5, (jK (ps.length : Int) ks ls j).map kv)], 66⟩) (fun j => j ≤ ls.length) (fun j => ls.length - j) (0) (Nat.zero_le _) (by simp [jK_zero]) ?_
  intro j hj J hJ
  have hw : IntKind.i64.wrap ((j : Int) + 1) = (j : Int) + 1 := wrap64 (by omega) (by omega)
  apply G.seq
  refine G.rg tab_ok ok_implJoinNetworks (hk := ?_)
  apply G.seq
  refine G.iff (h1 := fun h4 => ?_) (h2 := fun h4 => ?_)
  ·try simp only [zqz] at h4
   apply G.skip
   apply G.seq
   apply G.block
   apply G.seq
   have hjl : j < ls.length := by omega
   have hlo := hnw2.lk j hjl
   have hfb : (ls.getD j default).fr ≥ 0 → (ls.getD j default).fr < 12 := lk_fr hlo hq12
   have htb : (ls.getD j default).to ≥ 0 → (ls.getD j default).to < 12 := lk_to hlo hq12
   clear hlo
   have hsn := fun a b => jK_snoc (d := (ps.length : Int)) (ks := ks) hjl (a := a) (b := b)
   have hx4 := hsm.2 j hjl
   obtain ⟨x, hx⟩ : ∃ x, (ls.getD j default) = x := ⟨_, rfl⟩
   rw [hx] at hfb htb hx4
   simp only [hx] at hsn
   have hxt : x.tk.length ≤ 1048576 := by omega
   have hKl0 := jK_len (d := (ps.length : Int)) (ks := ks) (ls := ls) (j := j) (by omega)
   have hKl1 := jK_len (d := (ps.length : Int)) (ks := ks) (ls := ls) (j := j + 1) (by omega)
   have hq1 : (((jK (ps.length : Int) ks ls (j + 1)).length : Nat) : Int) ≤ 4611686018427387904 := by omega
   have hq2 : (jK (ps.length : Int) ks ls (j + 1)).length * 56 ≤ 70368744177664 := by omega
   have hKt : List.take (jK (ps.length : Int) ks ls j).length ((jK (ps.length : Int) ks ls j).map kv) = (jK (ps.length : Int) ks ls j).map kv := List.take_of_length_le (by simp)
   have hKs : (jK (ps.length : Int) ks ls j).length + 1 = (jK (ps.length : Int) ks ls (j + 1)).length := by rw [jK_len (by omega), jK_len (by omega)]; rfl
   clear hKl0 hKl1
   have hks : ∀ a b : Int, a = (if x.fr ≥ 0 then x.fr + (ps.length : Int) else x.fr) → b = (if x.to ≥ 0 then x.to + (ps.length : Int) else x.to) → (jK (ps.length : Int) ks ls j).map kv ++ [[.int .i64 a, .int .i64 x.ou, .int .i64 b, .int .i64 x.ip, .row false 1 (x.tk.map iv)]] = (jK (ps.length : Int) ks ls (j + 1)).map kv := fun a b ha hb => by rw [← hsn a b ha hb, List.map_append]; rfl
   clear hsn
   refine G.rg tab_ok ok_implJoinNetworks (hk := ?_)
   apply G.seq
   apply G.seq
   refine G.rg tab_ok ok_implJoinNetworks (hk := ?_)
   refine G.iff (h1 := fun h5 => ?_) (h2 := fun h5 => ?_)
   ·try simp only [zqz] at h5
    have hwf : IntKind.i64.wrap (x.fr + (ps.length : Int)) = x.fr + (ps.length : Int) := by have := hfb h5; exact wrap64 (by omega) (by omega)
    refine G.rg tab_ok ok_implJoinNetworks (hk := ?_)
    apply G.seq
    apply G.seq
    refine G.rg tab_ok ok_implJoinNetworks (hk := ?_)
    refine G.fg [2, 4, 6, 8, 29, 30, 31, 47] (hk := ?_)
    refine G.iff (h1 := fun h6 => ?_) (h2 := fun h6 => ?_)
    ·try simp only [zqz] at h6
     have hwt : IntKind.i64.wrap (x.to + (ps.length : Int)) = x.to + (ps.length : Int) := by have := htb h6; exact wrap64 (by omega) (by omega)
     refine G.rg tab_ok ok_implJoinNetworks (hk := ?_)
     refine G.rg tab_ok ok_implJoinNetworks (hk := ?_)
     first
     | rw [hks _ _ (if_pos (by omega)).symm (if_pos (by omega)).symm]
     | rw [hks _ _ (if_pos (by omega)).symm (if_neg (by omega)).symm]
     | rw [hks _ _ (if_neg (by omega)).symm (if_pos (by omega)).symm]
     | rw [hks _ _ (if_neg (by omega)).symm (if_neg (by omega)).symm]
     | skip
     apply G.blk
     refine G.rg tab_ok ok_implJoinNetworks (hk := ?_)
     refine G.nm [2, 4, 6, 29, 30, 31] (h := ?_)
     exact G.upto (hJ (j + 1) (by omega) (by omega)) (by simp [hKs])
    ·try simp only [zqz] at h6
     apply G.skip
     refine G.rg tab_ok ok_implJoinNetworks (hk := ?_)
     first
     | rw [hks _ _ (if_pos (by omega)).symm (if_pos (by omega)).symm]
     | rw [hks _ _ (if_pos (by omega)).symm (if_neg (by omega)).symm]
     | rw [hks _ _ (if_neg (by omega)).symm (if_pos (by omega)).symm]
     | rw [hks _ _ (if_neg (by omega)).symm (if_neg (by omega)).symm]
     | skip
     apply G.blk
     refine G.rg tab_ok ok_implJoinNetworks (hk := ?_)
     refine G.nm [2, 4, 6, 29, 30, 31] (h := ?_)
     exact G.upto (hJ (j + 1) (by omega) (by omega)) (by simp [hKs])
   ·try simp only [zqz] at h5
    apply G.skip
    apply G.seq
    apply G.seq
    refine G.rg tab_ok ok_implJoinNetworks (hk := ?_)
    refine G.fg [2, 4, 6, 8, 29, 30, 31, 47] (hk := ?_)
    refine G.iff (h1 := fun h7 => ?_) (h2 := fun h7 => ?_)
    ·try simp only [zqz] at h7
     have hwt : IntKind.i64.wrap (x.to + (ps.length : Int)) = x.to + (ps.length : Int) := by have := htb h7; exact wrap64 (by omega) (by omega)
     refine G.rg tab_ok ok_implJoinNetworks (hk := ?_)
     refine G.rg tab_ok ok_implJoinNetworks (hk := ?_)
     first
     | rw [hks _ _ (if_pos (by omega)).symm (if_pos (by omega)).symm]
     | rw [hks _ _ (if_pos (by omega)).symm (if_neg (by omega)).symm]
     | rw [hks _ _ (if_neg (by omega)).symm (if_pos (by omega)).symm]
     | rw [hks _ _ (if_neg (by omega)).symm (if_neg (by omega)).symm]
     | skip
     apply G.blk
     refine G.rg tab_ok ok_implJoinNetworks (hk := ?_)
     refine G.nm [2, 4, 6, 29, 30, 31] (h := ?_)
     exact G.upto (hJ (j + 1) (by omega) (by omega)) (by simp [hKs])
    ·try simp only [zqz] at h7
     apply G.skip
     refine G.rg tab_ok ok_implJoinNetworks (hk := ?_)
     first
     | rw [hks _ _ (if_pos (by omega)).symm (if_pos (by omega)).symm]
     | rw [hks _ _ (if_pos (by omega)).symm (if_neg (by omega)).symm]
     | rw [hks _ _ (if_neg (by omega)).symm (if_pos (by omega)).symm]
     | rw [hks _ _ (if_neg (by omega)).symm (if_neg (by omega)).symm]
     | skip
     apply G.blk
     refine G.rg tab_ok ok_implJoinNetworks (hk := ?_)
     refine G.nm [2, 4, 6, 29, 30, 31] (h := ?_)
     exact G.upto (hJ (j + 1) (by omega) (by omega)) (by simp [hKs])
  ·try simp only [zqz] at h4
   refine G.exit rfl ?_
   apply G.seq
   obtain rfl : j = ls.length := by omega
   have hKe := jK_end (ps.length : Int) ks ls
   rw [hKe]
   have hjy := join_yes hnk hnk2
   have hNW : NW (ps ++ qs) := app_NW (net_NW hnk) (net_NW hnk2)
   have hKW : KW (joinK (ps.length : Int) ks ls) := join_KW (net_KW hnk) (net_KW hnk2)
   have hPb : (ps ++ qs).length < 3518437208781 := by rw [List.length_append]; omega
   have hKb : (joinK (ps.length : Int) ks ls).length < 2513169434844 := by rw [joinK_len]; omega
   rw [hP] at hjy hNW hPb
   generalize joinK (ps.length : Int) ks ls = L at *
   clear hKe
   refine G.rg tab_ok ok_implJoinNetworks (hk := ?_)
   refine G.fin tab_ok (hr := ?_)
   simp only [oneOrTup, hjy]
def r_implJoinNetworks (xs0 : List A) (rr : A) : Prop := ∃ (ps : List PG) (ks : List LK) (qs : List PG) (ls : List LK), (NW ps) ∧ (KW ks) ∧ (ps.length < 3518437208781) ∧ (ks.length < 2513169434844) ∧ (NW qs) ∧ (KW ls) ∧ (qs.length < 3518437208781) ∧ (ls.length < 2513169434844) ∧ xs0 = [.agg [.row false 3 (ps.map pv), .row false 5 (ks.map kv)], .agg [.row false 3 (qs.map pv), .row false 5 (ls.map kv)]] ∧ rr = .tup [.agg [.row true 3 ((joinO ps ks qs ls).1.map opv), .row true 5 ((joinO ps ks qs ls).2.1.map okv)], .bool (joinO ps ks qs ls).2.2]
noncomputable def q_implJoinNetworks : List A → Option A := kgr r_implJoinNetworks
theorem k_implJoinNetworks : KOk Try.prog (39, q_implJoinNetworks) := kgr_ok (enters_of Try.func39 rfl rfl) (by rintro xs0 rr ⟨ps, ks, qs, ls, hc1, hc2, hc3, hc4, hc5, hc6, hc7, hc8, rfl, rfl⟩; exact implJoinNetworks_ac ps ks qs ls hc1 hc2 hc3 hc4 hc5 hc6 hc7 hc8)
theorem e_implJoinNetworks : ∀ (ps : List PG) (ks : List LK) (qs : List PG) (ls : List LK), (NW ps) → (KW ks) → (ps.length < 3518437208781) → (ks.length < 2513169434844) → (NW qs) → (KW ls) → (qs.length < 3518437208781) → (ls.length < 2513169434844) → q_implJoinNetworks [.agg [.row false 3 (ps.map pv), .row false 5 (ks.map kv)], .agg [.row false 3 (qs.map pv), .row false 5 (ls.map kv)]] = some (.tup [.agg [.row true 3 ((joinO ps ks qs ls).1.map opv), .row true 5 ((joinO ps ks qs ls).2.1.map okv)], .bool (joinO ps ks qs ls).2.2]) := by
 intro ps ks qs ls hc1 hc2 hc3 hc4 hc5 hc6 hc7 hc8
 refine kgr_eq (fun xs0 rr r2 h h2 => ?_) ⟨ps, ks, qs, ls, hc1, hc2, hc3, hc4, hc5, hc6, hc7, hc8, rfl, rfl⟩
 obtain ⟨ps1, ks1, qs1, ls1, _, _, _, _, _, _, _, _, e1, rfl⟩ := h; obtain ⟨ps2, ks2, qs2, ls2, _, _, _, _, _, _, _, _, e2, rfl⟩ := h2
 rw [e1] at e2
 simp only [List.cons.injEq, A.int.injEq, A.agg.injEq, A.row.injEq, pv_inj, kv_inj, iv_inj, true_and, and_true] at e2
 obtain ⟨⟨e3, e4⟩, e5, e6⟩ := e2
 subst e3 e4 e5 e6
 rfl
end Go.Proofs.Ytimgfinlbhodhaa.Ab
