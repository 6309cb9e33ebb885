/- Walks of functions of the program: what each answers, for all arguments that meet its conditions. -/
import Derived.Test.YtimgfinlbhodhaaAbX1
import Derived.Test.YtimgfinlbhodhaaAbW1
import Derived.Test.YtimgfinlbhodhaaFwGg
import Derived.Test.YtimgfinlbhodhaaFwGe
import Derived.Test.YtimgfinlbhodhaaFwGd
namespace Go.Proofs.Ytimgfinlbhodhaa.Ab
open Go
set_option linter.unusedVariables false
set_option linter.unusedSimpArgs false
set_option maxHeartbeats 4000000
theorem ok_implFeedNetwork : Kn.ok Try.prog (kof [(70, q_implIsNetwork), (133, q_copyNetwork), (134, q_concatInt), (112, q_checked)]) := kof_cons k_implIsNetwork (kof_cons k_copyNetwork (kof_cons k_concatInt (kof_cons k_checked ((kof_nil _)))))
theorem implFeedNetwork_ac (ps : List PG) (ks : List LK) (k : Int) (tk : List Int) (hc1 : NW ps) (hc2 : KW ks) (hc3 : ps.length < 3518437208781) (hc4 : ks.length < 2513169434844) (hc5 : tk.length ≤ 1048576) : AC Try.prog 60 [.agg [.row false 3 (ps.map pv), .row false 5 (ks.map kv)], .int .i64 k, .row false 1 (tk.map iv)] (.tup [.agg [.row true 3 ((feedO ps ks k tk).1.map opv), .row true 5 ((feedO ps ks k tk).2.1.map okv)], .bool (feedO ps ks k tk).2.2]) := by
  have e_implIsNetwork := e_implIsNetwork
  have e_copyNetwork := e_copyNetwork
  have e_concatInt := e_concatInt
  have e_checked := e_checked
  clear e_concatInt
  refine AC.of tab_ok Try.func60 rfl (Nat.le_of_ble_eq_true rfl) fun w0 S0 => ?_
  change G _ _ ⟨[(0, .agg [.row false 3 (ps.map pv), .row false 5 (ks.map kv)]), (1, .int .i64 k), (2, .row false 1 (tk.map iv))], [], 44⟩
  apply G.seq
  refine G.rg tab_ok ok_implFeedNetwork (hk := ?_)
  apply G.seq
  apply G.seq
  rcases (show netOk ps ks = false ∨ (netOk ps ks = true ∧ k < 0) ∨ (netOk ps ks = true ∧ ¬ k < 0 ∧ k ≥ (ks.length : Int)) ∨ (netOk ps ks = true ∧ ¬ k < 0 ∧ ¬ k ≥ (ks.length : Int)) by cases netOk ps ks <;> simp <;> omega) with c1 | ⟨c1, c2⟩ | ⟨c1, c2, c3⟩ | ⟨hnk, c2, c3⟩
  · skip
    refine G.rg tab_ok ok_implFeedNetwork (hk := ?_)
    refine G.iffT (h1 := ?_)
    apply G.seq
    refine G.rg tab_ok ok_implFeedNetwork (hk := ?_)
    refine G.focusNil 1 0 0 3 rfl rfl rfl ?_
    simp only [withH]
    refine G.focusNil 1 0 1 5 rfl rfl rfl ?_
    simp only [withH]
    refine G.fin tab_ok (hr := ?_)
    simp only [oneOrTup, feed_net c1]
    rfl
  · skip
    refine G.rg tab_ok ok_implFeedNetwork (hk := ?_)
    refine G.iffT (h1 := ?_)
    apply G.seq
    refine G.rg tab_ok ok_implFeedNetwork (hk := ?_)
    refine G.focusNil 1 0 0 3 rfl rfl rfl ?_
    simp only [withH]
    refine G.focusNil 1 0 1 5 rfl rfl rfl ?_
    simp only [withH]
    refine G.fin tab_ok (hr := ?_)
    simp only [oneOrTup, feed_in (ps := ps) (tk := tk) (in_not (Or.inl c2))]
    rfl
  · skip
    refine G.rg tab_ok ok_implFeedNetwork (hk := ?_)
    refine G.iffT (h1 := ?_)
    apply G.seq
    refine G.rg tab_ok ok_implFeedNetwork (hk := ?_)
    refine G.focusNil 1 0 0 3 rfl rfl rfl ?_
    simp only [withH]
    refine G.focusNil 1 0 1 5 rfl rfl rfl ?_
    simp only [withH]
    refine G.fin tab_ok (hr := ?_)
    simp only [oneOrTup, feed_in (ps := ps) (tk := tk) (in_not (Or.inr c3))]
    rfl
  · skip
    have h0 : 0 ≤ k := by omega
    have h1 : k < (ks.length : Int) := by omega
    have hnw := netOk_w hnk
    have hp12 := hnw.pl
    have hk30 := hnw.kl
    have hsm := net_small hnk
    have hkb : k.toNat < ks.length := by omega
    have hx4 := hsm.2 _ hkb
    obtain ⟨x, hx⟩ : ∃ x, ks.getD k.toNat default = x := ⟨_, rfl⟩
    rw [hx] at hx4
    have hfl0 := feedK_len ks k tk
    have hfl : ks.length ≤ (feedK ks k tk).length := Nat.le_of_eq hfl0.symm
    have hfB : (feedK ks k tk).length < 2513169434844 := by omega
    clear hfl0
    have hft : List.take ks.length ((feedK ks k tk).map okv) = (feedK ks k tk).map okv := List.take_of_length_le (by simp [feedK_len])
    have hKW : KW (feedK ks k tk) := feed_KW (net_KW hnk) (by rw [hx]; omega)
    have hge : ∀ a : List A, ((ks.map okv).set k.toNat a)[k.toNat]? = some a := fun a => List.getElem?_set_self (by rw [List.length_map]; exact hkb)
    have hrd : ∀ a b c d e : A, rdCells ((ks.map okv).set k.toNat [a, b, c, d, e]) k.toNat 4 1 = some [e] := fun a b c d e => by simp only [rdCells, hge]; rfl
    have hss : ∀ a b : List A, ((ks.map okv).set k.toNat a).set k.toNat b = (ks.map okv).set k.toNat b := fun a b => List.set_set ..
    obtain ⟨N, hN⟩ : ∃ z, x.tk ++ tk = z := ⟨_, rfl⟩
    have hNl : x.tk.length + tk.length = N.length := by rw [← hN, List.length_append]
    have hNm : x.tk.map iv ++ tk.map iv = N.map iv := by rw [← hN, List.map_append]
    have hb1 : ((N.length : Nat) : Int) ≤ 4611686018427387904 := by omega
    have hb2 : N.length * 8 ≤ 70368744177664 := by omega
    have hfk : ks.set k.toNat ⟨x.fr, x.ou, x.to, x.ip, N⟩ = feedK ks k tk := by unfold feedK moreT; rw [hx, hN]
    have hxe : (ks.map okv)[k.toNat]? = some (okv x) := by rw [List.getElem?_map, getD_some hkb, hx]; rfl
    have hft2 : (false == true) = false := rfl
    have htf2 : (true == false) = false := rfl
    refine G.rg tab_ok ok_implFeedNetwork (hk := ?_)
    refine G.iffF (h2 := ?_)
    apply G.skip
    apply G.seq
    refine G.rg tab_ok ok_implFeedNetwork (hk := ?_)
    apply G.seq
    have e_cc : q_concatInt [.row false 1 [[.row false 1 (x.tk.map iv)], [.row false 1 (tk.map iv)]]] = some (.row true 1 (N.map iv)) := by
      have := e_concatInt [x.tk, tk] (by simp) (by simp only [List.flatten_cons, List.flatten_nil, List.append_nil, List.length_append]; omega)
      simpa [ivL, hN] using this
    refine G.roCell 3 k.toNat 4 (e := okv x) rfl hxe rfl ?_
    simp only [withH, List.set_cons_succ, List.set_cons_zero, okv_eq, ro, if_true, roLL_iv]
    refine G.dr mixed tab_ok ok_implFeedNetwork [0, 1, 2, 3, 4, 5, 6, 7, 8, 9, 10, 11, 12, 13, 14] (hk := ?_)
    first
    | (refine G.unfocusE 3 k.toNat 4 6 (f := okv) (l := ks) ⟨x.fr, x.ou, x.to, x.ip, N⟩ rfl hkb rfl rfl (by decide) (by simp) (pureLL_iv _) rfl ?_
       rw [hfk])
    | (refine G.unfocusE 3 k.toNat 4 5 (f := okv) (l := ks) ⟨x.fr, x.ou, x.to, x.ip, N⟩ rfl hkb rfl rfl (by decide) (by simp) (pureLL_iv _) rfl ?_
       rw [hfk])
    | (refine G.unfocusE 2 k.toNat 4 4 (f := okv) (l := ks) ⟨x.fr, x.ou, x.to, x.ip, N⟩ rfl hkb rfl rfl (by decide) (by simp) (pureLL_iv _) rfl ?_
       rw [hfk])
    | (refine G.unfocusE 2 k.toNat 4 5 (f := okv) (l := ks) ⟨x.fr, x.ou, x.to, x.ip, N⟩ rfl hkb rfl rfl (by decide) (by simp) (pureLL_iv _) rfl ?_
       rw [hfk])
    | (refine G.unfocusE 2 k.toNat 4 3 (f := okv) (l := ks) ⟨x.fr, x.ou, x.to, x.ip, N⟩ rfl hkb rfl rfl (by decide) (by simp) (pureLL_iv _) rfl ?_
       rw [hfk])
    apply G.seq
    refine G.fg [6, 8] (hk := ?_)
    refine G.rg tab_ok ok_implFeedNetwork (hk := ?_)
    refine G.fin tab_ok (hr := ?_)
    simp only [oneOrTup, feed_yes hnk h0 h1, List.take_of_length_le, List.length_map, Nat.le_refl]
def r_implFeedNetwork (xs0 : List A) (rr : A) : Prop := ∃ (ps : List PG) (ks : List LK) (k : Int) (tk : List Int), (NW ps) ∧ (KW ks) ∧ (ps.length < 3518437208781) ∧ (ks.length < 2513169434844) ∧ (tk.length ≤ 1048576) ∧ xs0 = [.agg [.row false 3 (ps.map pv), .row false 5 (ks.map kv)], .int .i64 k, .row false 1 (tk.map iv)] ∧ rr = .tup [.agg [.row true 3 ((feedO ps ks k tk).1.map opv), .row true 5 ((feedO ps ks k tk).2.1.map okv)], .bool (feedO ps ks k tk).2.2]
noncomputable def q_implFeedNetwork : List A → Option A := kgr r_implFeedNetwork
theorem k_implFeedNetwork : KOk Try.prog (60, q_implFeedNetwork) := kgr_ok (enters_of Try.func60 rfl rfl) (by rintro xs0 rr ⟨ps, ks, k, tk, hc1, hc2, hc3, hc4, hc5, rfl, rfl⟩; exact implFeedNetwork_ac ps ks k tk hc1 hc2 hc3 hc4 hc5)
theorem e_implFeedNetwork : ∀ (ps : List PG) (ks : List LK) (k : Int) (tk : List Int), (NW ps) → (KW ks) → (ps.length < 3518437208781) → (ks.length < 2513169434844) → (tk.length ≤ 1048576) → q_implFeedNetwork [.agg [.row false 3 (ps.map pv), .row false 5 (ks.map kv)], .int .i64 k, .row false 1 (tk.map iv)] = some (.tup [.agg [.row true 3 ((feedO ps ks k tk).1.map opv), .row true 5 ((feedO ps ks k tk).2.1.map okv)], .bool (feedO ps ks k tk).2.2]) := by
  intro ps ks k tk hc1 hc2 hc3 hc4 hc5
  refine kgr_eq (fun xs0 rr r2 h h2 => ?_) ⟨ps, ks, k, tk, hc1, hc2, hc3, hc4, hc5, rfl, rfl⟩
  obtain ⟨ps1, ks1, k1, tk1, _, _, _, _, _, e1, rfl⟩ := h; obtain ⟨ps2, ks2, k2, tk2, _, _, _, _, _, e2, rfl⟩ := h2
  rw [e1] at e2
  simp only [List.cons.injEq, A.int.injEq, A.agg.injEq, A.row.injEq, pv_inj, kv_inj, iv_inj, true_and, and_true] at e2
  obtain ⟨⟨e3, e4⟩, e5, e6⟩ := e2
  subst e3 e4 e5 e6
  rfl
end Go.Proofs.Ytimgfinlbhodhaa.Ab
