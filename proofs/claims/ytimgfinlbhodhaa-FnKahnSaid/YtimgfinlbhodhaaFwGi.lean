/- Walks of functions of the program, and the plain definitions. -/
import Derived.Test.YtimgfinlbhodhaaFwGg
namespace Go.Proofs.Ytimgfinlbhodhaa.Ab
open Go
set_option linter.unusedVariables false
set_option linter.unusedSimpArgs false
set_option maxHeartbeats 4000000
theorem ok_implIsState : Kn.ok Try.prog (kof [(70, q_implIsNetwork), (141, q_isActor0), (97, q_implIsStream), (136, q_implIsPrefix), (142, q_eqSl)]) := kof_cons k_implIsNetwork (kof_cons k_isActor0 (kof_cons k_implIsStream (kof_cons k_implIsPrefix (kof_cons k_eqSl ((kof_nil _))))))
theorem implIsState_ac (ps : List PG) (ks : List LK) (xs : List AT) (qs : List (List Int)) (hs : List (List Int)) (t : Int) (hc1 : NW ps) (hc2 : KW ks) (hc3 : ps.length < 3518437208781) (hc4 : ks.length < 2513169434844) (hc5 : XW xs) (hc6 : xs.length < 4398046511104) (hc7 : qs.length < 5864062014805) (hc8 : LW qs) (hc9 : hs.length < 5864062014805) (hc10 : LW hs) : AC Try.prog 65 [.agg [.row false 3 (ps.map pv), .row false 5 (ks.map kv)], .agg [.row false 2 (xs.map av), .row false 1 (qs.map ivL), .row false 1 (hs.map ivL), .int .i64 t]] (.bool (stOk ps ks xs qs hs t)) := by
 have e_implIsNetwork := e_implIsNetwork
 have e_isActor0 := e_isActor0
 have e_implIsStream := e_implIsStream
 have e_implIsPrefix := e_implIsPrefix
 have e_eqSl := e_eqSl
 have hivl := ivL_eq
 have hft : (false == true) = false := rfl
 have htf : (true == false) = false := rfl
 refine AC.of tab_ok Try.func65 rfl (Nat.le_of_ble_eq_true rfl) fun w0 S0 => ?_
 change G _ _ ⟨[(0, .agg [.row false 3 (ps.map pv), .row false 5 (ks.map kv)]), (1, .agg [.row false 2 (xs.map av), .row false 1 (qs.map ivL), .row false 1 (hs.map ivL), .int .i64 t])], [], 139⟩
 apply G.seq
 refine G.rg tab_ok ok_implIsState (hk := ?_)
 apply G.seq
 apply G.seq
 rcases (show netOk ps ks = false ∨ (netOk ps ks = true ∧ ((xs.length : Int) == (ps.length : Int)) = false) ∨ (netOk ps ks = true ∧ ((xs.length : Int) == (ps.length : Int)) = true ∧ ((qs.length : Int) == (ks.length : Int)) = false) ∨ (netOk ps ks = true ∧ ((xs.length : Int) == (ps.length : Int)) = true ∧ ((qs.length : Int) == (ks.length : Int)) = true ∧ ((hs.length : Int) == (ks.length : Int)) = false) ∨ (netOk ps ks = true ∧ ((xs.length : Int) == (ps.length : Int)) = true ∧ ((qs.length : Int) == (ks.length : Int)) = true ∧ ((hs.length : Int) == (ks.length : Int)) = true ∧ t < 0) ∨ (netOk ps ks = true ∧ ((xs.length : Int) == (ps.length : Int)) = true ∧ ((qs.length : Int) == (ks.length : Int)) = true ∧ ((hs.length : Int) == (ks.length : Int)) = true ∧ ¬ t < 0) by cases netOk ps ks <;> cases ((xs.length : Int) == (ps.length : Int)) <;> cases ((qs.length : Int) == (ks.length : Int)) <;> cases ((hs.length : Int) == (ks.length : Int)) <;> simp <;> omega) with c1 | ⟨c1, c2⟩ | ⟨c1, c2, c3⟩ | ⟨c1, c2, c3, c4⟩ | ⟨c1, c2, c3, c4, c5⟩ | ⟨c1, c2, c3, c4, c5⟩
 ·skip
  refine G.rgN 4 tab_ok ok_implIsState (hk := ?_)
  refine G.rdC tab_ok ok_implIsState (hk := ?_)
  refine G.iffT (h1 := ?_)
  apply G.seq
  refine G.fg [] (hk := ?_)
  refine G.rg tab_ok ok_implIsState (hk := ?_)
  refine G.fin tab_ok (hr := ?_)
  simp only [oneOrTup]
  congr 1
  exact (stOk_big (by unfold stBig; simp only [c1, Bool.false_and, Bool.and_false])).symm
 ·skip
  refine G.rgN 4 tab_ok ok_implIsState (hk := ?_)
  refine G.rdC tab_ok ok_implIsState (hk := ?_)
  refine G.iffT (h1 := ?_)
  apply G.seq
  refine G.fg [] (hk := ?_)
  refine G.rg tab_ok ok_implIsState (hk := ?_)
  refine G.fin tab_ok (hr := ?_)
  simp only [oneOrTup]
  congr 1
  exact (stOk_big (by unfold stBig; simp only [c2, Bool.false_and, Bool.and_false])).symm
 ·skip
  refine G.rgN 4 tab_ok ok_implIsState (hk := ?_)
  refine G.rdC tab_ok ok_implIsState (hk := ?_)
  refine G.iffT (h1 := ?_)
  apply G.seq
  refine G.fg [] (hk := ?_)
  refine G.rg tab_ok ok_implIsState (hk := ?_)
  refine G.fin tab_ok (hr := ?_)
  simp only [oneOrTup]
  congr 1
  exact (stOk_big (by unfold stBig; simp only [c3, Bool.false_and, Bool.and_false])).symm
 ·skip
  refine G.rgN 4 tab_ok ok_implIsState (hk := ?_)
  refine G.rdC tab_ok ok_implIsState (hk := ?_)
  refine G.iffT (h1 := ?_)
  apply G.seq
  refine G.fg [] (hk := ?_)
  refine G.rg tab_ok ok_implIsState (hk := ?_)
  refine G.fin tab_ok (hr := ?_)
  simp only [oneOrTup]
  congr 1
  exact (stOk_big (by unfold stBig; simp only [c4, Bool.false_and, Bool.and_false])).symm
 ·skip
  refine G.rgN 4 tab_ok ok_implIsState (hk := ?_)
  refine G.rdC tab_ok ok_implIsState (hk := ?_)
  refine G.iffT (h1 := ?_)
  apply G.seq
  refine G.fg [] (hk := ?_)
  refine G.rg tab_ok ok_implIsState (hk := ?_)
  refine G.fin tab_ok (hr := ?_)
  simp only [oneOrTup]
  congr 1
  exact (stOk_big (by rw [Bool.eq_false_iff]; intro hh; have := stBig_w hh; omega)).symm
 ·skip
  refine G.rgN 4 tab_ok ok_implIsState (hk := ?_)
  refine G.rdC tab_ok ok_implIsState (hk := ?_)
  refine G.fg [2, 3, 50, 59, 60, 61, 62, 63, 64, 65, 76, 77, 78, 79, 80, 81, 82, 83, 84, 85] (hk := ?_)
  refine G.iff (h1 := fun h6 => ?_) (h2 := fun h6 => ?_)
  ·try simp only [zqz] at h6
   apply G.seq
   refine G.rg tab_ok ok_implIsState (hk := ?_)
   refine G.fin tab_ok (hr := ?_)
   simp only [oneOrTup]
   congr 1
   exact (stOk_big (by rw [Bool.eq_false_iff]; intro hh; have := stBig_w hh; omega)).symm
  ·try simp only [zqz] at h6
   apply G.skip
   apply G.seq
   apply G.seq
   have hin : inR t 0 20000 = true := by simp only [inR, Bool.and_eq_true, decide_eq_true_eq]; omega
   have hbig : stBig ps ks xs qs hs t = true := by unfold stBig; simp only [c1, c2, c3, c4, hin, Bool.and_self]
   clear c1 c2 c3 c4
   obtain ⟨w0, w1, w2, w3, w4, w5⟩ := stBig_w hbig
   have hp12 := (netOk_w w0).pl
   have hk30 := (netOk_w w0).kl
   have e1 : xs.length ≤ ps.length := by omega
   have e2 : ps.length ≤ xs.length := by omega
   have e3 : qs.length ≤ ks.length := by omega
   have e4 : ks.length ≤ qs.length := by omega
   have e5 : hs.length ≤ ks.length := by omega
   have e6 : ks.length ≤ hs.length := by omega
   have hnw := netOk_w w0
   clear w1 w2 w3
   refine G.rg tab_ok ok_implIsState (hk := ?_)
   apply G.block
   refine G.cn [2, 3, 52, 53, 54] [0, 1] (h := ?_)
   refine G.loopX (fun j : Nat => ⟨[(2, .ptr 0 0 0), (3, .ptr 1 0 0), (52, .row false 3 (ps.map pv)), (53, .int .i64 ps.length), (54, .int .i64 j)], [some (2, [[.row false 3 (ps.map pv), .row false 5 (ks.map kv)]]), some (4, [[.row false 2 (xs.map av), .row false 1 (qs.map ivL), .row false 1 (hs.map ivL), .int .i64 t]])], 139⟩) (fun j => j ≤ ps.length ∧ ∀ k < j, actAt ps xs k = true) (fun j => ps.length - j) (0) (⟨Nat.zero_le _, by omega⟩) (by simp) ?_
   intro j hj J hJ
   obtain ⟨hj, hall⟩ := hj
   have hw : IntKind.i64.wrap ((j : Int) + 1) = (j : Int) + 1 := wrap64 (by omega) (by omega)
   apply G.seq
   refine G.rg tab_ok ok_implIsState (hk := ?_)
   apply G.seq
   refine G.iff (h1 := fun h7 => ?_) (h2 := fun h7 => ?_)
   ·try simp only [zqz] at h7
    apply G.skip
    apply G.seq
    apply G.block
    apply G.seq
    refine G.rg tab_ok ok_implIsState (hk := ?_)
    apply G.seq
    have hjp : j < ps.length := by omega
    have hjx : j < xs.length := by omega
    have hla : (ps.getD j default).l.length < 4398046511104 := hc1 _ (getD_mem0 hjp)
    have hlx : (xs.getD j default).rs.length < 17592186044416 := hc5 _ (getD_mem0 hjx)
    refine G.dr mixed tab_ok ok_implIsState [0, 1, 2, 3, 4, 5, 6, 7] (hk := ?_)
    refine G.fg [2, 3, 52, 53, 54, 66] (hk := ?_)
    refine G.iff (h1 := fun h8 => ?_) (h2 := fun h8 => ?_)
    ·try simp only [zqz] at h8
     apply G.seq
     refine G.rg tab_ok ok_implIsState (hk := ?_)
     refine G.fin tab_ok (hr := ?_)
     simp only [oneOrTup]
     congr 1
     exact (stOk_act hjp h8).symm
    ·try simp only [zqz] at h8
     apply G.skip
     apply G.blk
     refine G.rg tab_ok ok_implIsState (hk := ?_)
     refine G.cn [2, 3, 52, 53, 54] [0, 1] (h := ?_)
     exact G.upto (hJ (j + 1) ⟨by omega, up_step hall h8⟩ (by omega)) (by simp)
   ·try simp only [zqz] at h7
    refine G.exit rfl ?_
    apply G.seq
    apply G.seq
    refine G.rg tab_ok ok_implIsState (hk := ?_)
    apply G.block
    have hact : ∀ k < ps.length, actAt ps xs k = true := fun k hk => hall k (by omega)
    clear hall hJ hj
    refine G.nm [3, 69, 70, 71] (h := ?_)
    refine G.loopX (fun j : Nat => ⟨[(3, .ptr 0 0 0), (69, .row false 5 (ks.map kv)), (70, .int .i64 ks.length), (71, .int .i64 j)], [some (4, [[.row false 2 (xs.map av), .row false 1 (qs.map ivL), .row false 1 (hs.map ivL), .int .i64 t]])], 139⟩) (fun j => j ≤ ks.length ∧ ∀ k < j, linkAt ks qs hs k = true) (fun j => ks.length - j) (0) (⟨Nat.zero_le _, by omega⟩) (by simp) ?_
    intro j hj J hJ
    obtain ⟨hj, hall⟩ := hj
    have hw : IntKind.i64.wrap ((j : Int) + 1) = (j : Int) + 1 := wrap64 (by omega) (by omega)
    apply G.seq
    refine G.rg tab_ok ok_implIsState (hk := ?_)
    apply G.seq
    refine G.iff (h1 := fun h9 => ?_) (h2 := fun h9 => ?_)
    ·try simp only [zqz] at h9
     apply G.skip
     apply G.seq
     apply G.block
     apply G.seq
     have hjk : j < ks.length := by omega
     have hjq : j < qs.length := by omega
     have hjh : j < hs.length := by omega
     have hlk : (ks.getD j default).tk.length < 17592186044416 := hc2 _ (getD_mem0 hjk)
     have hlq : (qs.getD j default).length < 17592186044416 := hc8 _ (getD_mem0 hjq)
     have hlh : (hs.getD j default).length < 17592186044416 := hc10 _ (getD_mem0 hjh)
     obtain ⟨x, hx⟩ : ∃ x, ks.getD j default = x := ⟨_, rfl⟩
     obtain ⟨q, hq⟩ : ∃ x, qs.getD j default = x := ⟨_, rfl⟩
     obtain ⟨h, hh⟩ : ∃ x, hs.getD j default = x := ⟨_, rfl⟩
     rw [hx] at hlk
     rw [hq] at hlq
     rw [hh] at hlh
     have hstr := lk_str w0 hjk
     rw [hx] at hstr
     refine G.rg tab_ok ok_implIsState (hk := ?_)
     apply G.seq
     refine G.dr mixed tab_ok ok_implIsState [0, 1, 2, 3, 4, 5, 6, 7, 8, 9, 10, 11] (hk := ?_)
     apply G.seq
     apply G.seq
     rcases (show strOk q = false ∨ (strOk q = true ∧ pfxB x.tk h = false) ∨ (strOk q = true ∧ pfxB x.tk h = true ∧ ¬ q.length ≤ h.length) ∨ (strOk q = true ∧ pfxB x.tk h = true ∧ q.length ≤ h.length) by cases strOk q <;> cases pfxB x.tk h <;> simp; omega) with d1 | ⟨d1, d2⟩ | ⟨d1, d2, d3⟩ | ⟨d1, d2, d3⟩
     ·skip
      refine G.fg [3, 8, 9, 10, 69, 70, 71] (hk := ?_)
      refine G.rgN 4 tab_ok ok_implIsState (hk := ?_)
      refine G.rdN 8 tab_ok ok_implIsState (hk := ?_)
      refine G.rdN 8 tab_ok ok_implIsState (hk := ?_)
      refine G.rdC tab_ok ok_implIsState (hk := ?_)
      refine G.iffT (h1 := ?_)
      apply G.seq
      refine G.fg [] (hk := ?_)
      refine G.rg tab_ok ok_implIsState (hk := ?_)
      refine G.fin tab_ok (hr := ?_)
      simp only [oneOrTup]
      congr 1
      exact (stOk_link hjk (by show linkSt _ _ _ = _; rw [hx, hq, hh]; exact link_q d1)).symm
     ·skip
      refine G.fg [3, 8, 9, 10, 69, 70, 71] (hk := ?_)
      refine G.rgN 4 tab_ok ok_implIsState (hk := ?_)
      refine G.rdN 8 tab_ok ok_implIsState (hk := ?_)
      refine G.rdN 8 tab_ok ok_implIsState (hk := ?_)
      refine G.rdC tab_ok ok_implIsState (hk := ?_)
      refine G.iffT (h1 := ?_)
      apply G.seq
      refine G.fg [] (hk := ?_)
      refine G.rg tab_ok ok_implIsState (hk := ?_)
      refine G.fin tab_ok (hr := ?_)
      simp only [oneOrTup]
      congr 1
      exact (stOk_link hjk (by show linkSt _ _ _ = _; rw [hx, hq, hh]; exact link_pfx hstr d2)).symm
     ·skip
      have d4 : (q.length : Int) > (h.length : Int) := by omega
      refine G.fg [3, 8, 9, 10, 69, 70, 71] (hk := ?_)
      refine G.rgN 4 tab_ok ok_implIsState (hk := ?_)
      refine G.rdN 8 tab_ok ok_implIsState (hk := ?_)
      refine G.rdN 8 tab_ok ok_implIsState (hk := ?_)
      refine G.rdC tab_ok ok_implIsState (hk := ?_)
      refine G.iffT (h1 := ?_)
      apply G.seq
      refine G.fg [] (hk := ?_)
      refine G.rg tab_ok ok_implIsState (hk := ?_)
      refine G.fin tab_ok (hr := ?_)
      simp only [oneOrTup]
      congr 1
      exact (stOk_link hjk (by show linkSt _ _ _ = _; rw [hx, hq, hh]; exact link_long d3)).symm
     ·skip
      have d4 : ¬ (q.length : Int) > (h.length : Int) := by omega
      have hw0 : IntKind.i64.wrap ((h.length : Int) - (q.length : Int)) = ((h.length - q.length : Nat) : Int) := by rw [wrap64 (by omega) (by omega)]; omega
      have d5 : h.length - q.length ≤ h.length := by omega
      have hdr : List.drop (h.length - q.length) (h.map iv) = (h.drop (h.length - q.length)).map iv := (List.map_drop ..).symm
      have hlt : h.length - (h.length - q.length) < 17592186044416 := by omega
      have hct : List.take h.length (h.map iv) = h.map iv := List.take_of_length_le (by simp)
      refine G.fg [3, 8, 9, 10, 69, 70, 71] (hk := ?_)
      refine G.rgN 4 tab_ok ok_implIsState (hk := ?_)
      refine G.rdN 8 tab_ok ok_implIsState (hk := ?_)
      refine G.rdN 8 tab_ok ok_implIsState (hk := ?_)
      refine G.rdC tab_ok ok_implIsState (hk := ?_)
      refine G.fg [3, 8, 9, 10, 69, 70, 71, 114] (hk := ?_)
      refine G.iff (h1 := fun h13 => ?_) (h2 := fun h13 => ?_)
      ·try simp only [zqz] at h13
       apply G.seq
       refine G.rg tab_ok ok_implIsState (hk := ?_)
       refine G.fin tab_ok (hr := ?_)
       simp only [oneOrTup]
       congr 1
       exact (stOk_link hjk (by show linkSt _ _ _ = _; rw [hx, hq, hh]; exact link_end d3 h13)).symm
      ·try simp only [zqz] at h13
       apply G.skip
       apply G.seq
       have hE : endB q h = true := by rw [← endB_eq d3, decide_eq_true_eq]; exact h13
       clear h13
       refine G.rg tab_ok ok_implIsState (hk := ?_)
       refine G.fg [3, 69, 70, 71, 137] (hk := ?_)
       refine G.iff (h1 := fun h14 => ?_) (h2 := fun h14 => ?_)
       ·try simp only [zqz] at h14
        apply G.seq
        refine G.rg tab_ok ok_implIsState (hk := ?_)
        refine G.fin tab_ok (hr := ?_)
        simp only [oneOrTup]
        congr 1
        exact (stOk_link hjk (by show linkSt _ _ _ = _; rw [hx, hq, hh]; exact link_noC h14)).symm
       ·try simp only [zqz] at h14
        apply G.skip
        apply G.blk
        refine G.rg tab_ok ok_implIsState (hk := ?_)
        refine G.nm [3, 69, 70, 71] (h := ?_)
        exact G.upto (hJ (j + 1) ⟨by omega, up_step hall (by show linkSt _ _ _ = _; rw [hx, hq, hh]; exact link_yes3 d1 d2 (by omega) hE h14)⟩ (by omega)) (by simp)
    ·try simp only [zqz] at h9
     refine G.exit rfl ?_
     apply G.seq
     refine G.rg tab_ok ok_implIsState (hk := ?_)
     refine G.fin tab_ok (hr := ?_)
     simp only [oneOrTup]
     congr 1
     exact (stOk_yes hbig hact (fun k hk => hall k (by omega))).symm
def r_implIsState (xs0 : List A) (rr : A) : Prop := ∃ (ps : List PG) (ks : List LK) (xs : List AT) (qs : List (List Int)) (hs : List (List Int)) (t : Int), (NW ps) ∧ (KW ks) ∧ (ps.length < 3518437208781) ∧ (ks.length < 2513169434844) ∧ (XW xs) ∧ (xs.length < 4398046511104) ∧ (qs.length < 5864062014805) ∧ (LW qs) ∧ (hs.length < 5864062014805) ∧ (LW hs) ∧ xs0 = [.agg [.row false 3 (ps.map pv), .row false 5 (ks.map kv)], .agg [.row false 2 (xs.map av), .row false 1 (qs.map ivL), .row false 1 (hs.map ivL), .int .i64 t]] ∧ rr = .bool (stOk ps ks xs qs hs t)
noncomputable def q_implIsState : List A → Option A := kgr r_implIsState
theorem k_implIsState : KOk Try.prog (65, q_implIsState) := kgr_ok (enters_of Try.func65 rfl rfl) (by rintro xs0 rr ⟨ps, ks, xs, qs, hs, t, hc1, hc2, hc3, hc4, hc5, hc6, hc7, hc8, hc9, hc10, rfl, rfl⟩; exact implIsState_ac ps ks xs qs hs t hc1 hc2 hc3 hc4 hc5 hc6 hc7 hc8 hc9 hc10)
theorem e_implIsState : ∀ (ps : List PG) (ks : List LK) (xs : List AT) (qs : List (List Int)) (hs : List (List Int)) (t : Int), (NW ps) → (KW ks) → (ps.length < 3518437208781) → (ks.length < 2513169434844) → (XW xs) → (xs.length < 4398046511104) → (qs.length < 5864062014805) → (LW qs) → (hs.length < 5864062014805) → (LW hs) → q_implIsState [.agg [.row false 3 (ps.map pv), .row false 5 (ks.map kv)], .agg [.row false 2 (xs.map av), .row false 1 (qs.map ivL), .row false 1 (hs.map ivL), .int .i64 t]] = some (.bool (stOk ps ks xs qs hs t)) := by
 intro ps ks xs qs hs t hc1 hc2 hc3 hc4 hc5 hc6 hc7 hc8 hc9 hc10
 refine kgr_eq (fun xs0 rr r2 h h2 => ?_) ⟨ps, ks, xs, qs, hs, t, hc1, hc2, hc3, hc4, hc5, hc6, hc7, hc8, hc9, hc10, rfl, rfl⟩
 obtain ⟨ps1, ks1, xs1, qs1, hs1, t1, _, _, _, _, _, _, _, _, _, _, e1, rfl⟩ := h; obtain ⟨ps2, ks2, xs2, qs2, hs2, t2, _, _, _, _, _, _, _, _, _, _, e2, rfl⟩ := h2
 rw [e1] at e2
 simp only [List.cons.injEq, A.int.injEq, A.agg.injEq, A.row.injEq, pv_inj, kv_inj, av_inj, ivL_inj, true_and, and_true] at e2
 obtain ⟨⟨e1, e2⟩, e3, e4, e5, e6⟩ := e2
 subst e1 e2 e3 e4 e5 e6
 rfl
theorem ok_l5Ends : Kn.ok Try.prog (kof [(76, q_l1Begins)]) := kof_cons k_l1Begins ((kof_nil _))
theorem l5Ends_ac (a : List Int) (b : List Int) (hc1 : a.length < 17592186044416) (hc2 : b.length < 17592186044416) : AC Try.prog 77 [.row false 1 (a.map iv), .row false 1 (b.map iv)] (.bool (endB a b)) := by
 have e_l1Begins := e_l1Begins
 have hft : (false == true) = false := rfl
 have htf : (true == false) = false := rfl
 refine AC.of tab_ok Try.func77 rfl (Nat.le_of_ble_eq_true rfl) fun w0 S0 => ?_
 change G _ _ ⟨[(0, .row false 1 (a.map iv)), (1, .row false 1 (b.map iv))], [], 21⟩
 apply G.seq
 refine G.rg tab_ok ok_l5Ends (hk := ?_)
 apply G.seq
 rcases (show (a.length : Int) ≤ (b.length : Int) ∨ ¬ (a.length : Int) ≤ (b.length : Int) by omega) with c1 | c1
 ·skip
  have c2 : a.length ≤ b.length := by omega
  have hw0 : IntKind.i64.wrap ((b.length : Int) - (a.length : Int)) = ((b.length - a.length : Nat) : Int) := by rw [wrap64 (by omega) (by omega)]; omega
  have c3 : b.length - a.length ≤ b.length := by omega
  have hdr : List.drop (b.length - a.length) (b.map iv) = (b.drop (b.length - a.length)).map iv := (List.map_drop ..).symm
  have hlt : b.length - (b.length - a.length) < 17592186044416 := by omega
  have hct : List.take b.length (b.map iv) = b.map iv := List.take_of_length_le (by simp)
  refine G.rgN 5 tab_ok ok_l5Ends (hk := ?_)
  refine G.rdC tab_ok ok_l5Ends (hk := ?_)
  refine G.fin tab_ok (hr := ?_)
  simp only [oneOrTup]
  congr 1
  exact endB_beg c2
 ·skip
  refine G.rgN 5 tab_ok ok_l5Ends (hk := ?_)
  refine G.rdC tab_ok ok_l5Ends (hk := ?_)
  refine G.fin tab_ok (hr := ?_)
  simp only [oneOrTup]
  congr 1
  exact (endB_long (by omega)).symm
def r_l5Ends (xs0 : List A) (rr : A) : Prop := ∃ (a : List Int) (b : List Int), (a.length < 17592186044416) ∧ (b.length < 17592186044416) ∧ xs0 = [.row false 1 (a.map iv), .row false 1 (b.map iv)] ∧ rr = .bool (endB a b)
noncomputable def q_l5Ends : List A → Option A := kgr r_l5Ends
theorem k_l5Ends : KOk Try.prog (77, q_l5Ends) := kgr_ok (enters_of Try.func77 rfl rfl) (by rintro xs0 rr ⟨a, b, hc1, hc2, rfl, rfl⟩; exact l5Ends_ac a b hc1 hc2)
theorem e_l5Ends : ∀ (a : List Int) (b : List Int), (a.length < 17592186044416) → (b.length < 17592186044416) → q_l5Ends [.row false 1 (a.map iv), .row false 1 (b.map iv)] = some (.bool (endB a b)) := by
 intro a b hc1 hc2
 refine kgr_eq (fun xs0 rr r2 h h2 => ?_) ⟨a, b, hc1, hc2, rfl, rfl⟩
 obtain ⟨a1, b1, _, _, e1, rfl⟩ := h; obtain ⟨a2, b2, _, _, e2, rfl⟩ := h2
 rw [e1] at e2
 simp only [List.cons.injEq, A.int.injEq, A.bool.injEq, A.agg.injEq, A.row.injEq, A.fn.injEq, A.rp.injEq, insv_inj, iv_inj, true_and, and_true] at e2
 simp [e2]
theorem ok_specIsState : Kn.ok Try.prog (kof [(72, q_specIsNetwork), (73, q_l1In), (74, q_l2Actor), (75, q_specIsStream), (76, q_l1Begins), (77, q_l5Ends)]) := kof_cons k_specIsNetwork (kof_cons k_l1In (kof_cons k_l2Actor (kof_cons k_specIsStream (kof_cons k_l1Begins (kof_cons k_l5Ends ((kof_nil _)))))))
theorem specIsState_ac (ps : List PG) (ks : List LK) (xs : List AT) (qs : List (List Int)) (hs : List (List Int)) (t : Int) (hc1 : NW ps) (hc2 : KW ks) (hc3 : ps.length < 3518437208781) (hc4 : ks.length < 2513169434844) (hc5 : XW xs) (hc6 : xs.length < 4398046511104) (hc7 : qs.length < 5864062014805) (hc8 : LW qs) (hc9 : hs.length < 5864062014805) (hc10 : LW hs) : AC Try.prog 16 [.agg [.row false 3 (ps.map pv), .row false 5 (ks.map kv)], .agg [.row false 2 (xs.map av), .row false 1 (qs.map ivL), .row false 1 (hs.map ivL), .int .i64 t]] (.bool (stOk ps ks xs qs hs t)) := by
 have e_specIsNetwork := e_specIsNetwork
 have e_l1In := e_l1In
 have e_l2Actor := e_l2Actor
 have e_specIsStream := e_specIsStream
 have e_l1Begins := e_l1Begins
 have e_l5Ends := e_l5Ends
 have hivl := ivL_eq
 have hft : (false == true) = false := rfl
 have htf : (true == false) = false := rfl
 refine AC.of tab_ok Try.func16 rfl (Nat.le_of_ble_eq_true rfl) fun w0 S0 => ?_
 change G _ _ ⟨[(0, .agg [.row false 3 (ps.map pv), .row false 5 (ks.map kv)]), (1, .agg [.row false 2 (xs.map av), .row false 1 (qs.map ivL), .row false 1 (hs.map ivL), .int .i64 t])], [], 127⟩
 apply G.seq
 refine G.rg tab_ok ok_specIsState (hk := ?_)
 apply G.seq
 apply G.seq
 rcases (show netOk ps ks = false ∨ (netOk ps ks = true ∧ ((xs.length : Int) == (ps.length : Int)) = false) ∨ (netOk ps ks = true ∧ ((xs.length : Int) == (ps.length : Int)) = true ∧ ((qs.length : Int) == (ks.length : Int)) = false) ∨ (netOk ps ks = true ∧ ((xs.length : Int) == (ps.length : Int)) = true ∧ ((qs.length : Int) == (ks.length : Int)) = true ∧ ((hs.length : Int) == (ks.length : Int)) = false) ∨ (netOk ps ks = true ∧ ((xs.length : Int) == (ps.length : Int)) = true ∧ ((qs.length : Int) == (ks.length : Int)) = true ∧ ((hs.length : Int) == (ks.length : Int)) = true) by cases netOk ps ks <;> cases ((xs.length : Int) == (ps.length : Int)) <;> cases ((qs.length : Int) == (ks.length : Int)) <;> cases ((hs.length : Int) == (ks.length : Int)) <;> simp) with c1 | ⟨c1, c2⟩ | ⟨c1, c2, c3⟩ | ⟨c1, c2, c3, c4⟩ | ⟨c1, c2, c3, c4⟩
 ·skip
  refine G.rgN 4 tab_ok ok_specIsState (hk := ?_)
  refine G.rdC tab_ok ok_specIsState (hk := ?_)
  refine G.iffT (h1 := ?_)
  apply G.seq
  refine G.fg [] (hk := ?_)
  refine G.rg tab_ok ok_specIsState (hk := ?_)
  refine G.fin tab_ok (hr := ?_)
  simp only [oneOrTup]
  congr 1
  exact (stOk_big (by unfold stBig; simp only [c1, Bool.false_and, Bool.and_false])).symm
 ·skip
  refine G.rgN 4 tab_ok ok_specIsState (hk := ?_)
  refine G.rdC tab_ok ok_specIsState (hk := ?_)
  refine G.iffT (h1 := ?_)
  apply G.seq
  refine G.fg [] (hk := ?_)
  refine G.rg tab_ok ok_specIsState (hk := ?_)
  refine G.fin tab_ok (hr := ?_)
  simp only [oneOrTup]
  congr 1
  exact (stOk_big (by unfold stBig; simp only [c2, Bool.false_and, Bool.and_false])).symm
 ·skip
  refine G.rgN 4 tab_ok ok_specIsState (hk := ?_)
  refine G.rdC tab_ok ok_specIsState (hk := ?_)
  refine G.iffT (h1 := ?_)
  apply G.seq
  refine G.fg [] (hk := ?_)
  refine G.rg tab_ok ok_specIsState (hk := ?_)
  refine G.fin tab_ok (hr := ?_)
  simp only [oneOrTup]
  congr 1
  exact (stOk_big (by unfold stBig; simp only [c3, Bool.false_and, Bool.and_false])).symm
 ·skip
  refine G.rgN 4 tab_ok ok_specIsState (hk := ?_)
  refine G.rdC tab_ok ok_specIsState (hk := ?_)
  refine G.iffT (h1 := ?_)
  apply G.seq
  refine G.fg [] (hk := ?_)
  refine G.rg tab_ok ok_specIsState (hk := ?_)
  refine G.fin tab_ok (hr := ?_)
  simp only [oneOrTup]
  congr 1
  exact (stOk_big (by unfold stBig; simp only [c4, Bool.false_and, Bool.and_false])).symm
 ·skip
  refine G.rgN 4 tab_ok ok_specIsState (hk := ?_)
  refine G.rdC tab_ok ok_specIsState (hk := ?_)
  refine G.fg [2, 3, 46, 55, 56, 57, 58, 59, 60, 61] (hk := ?_)
  refine G.iff (h1 := fun h5 => ?_) (h2 := fun h5 => ?_)
  ·try simp only [zqz] at h5
   apply G.seq
   refine G.rg tab_ok ok_specIsState (hk := ?_)
   refine G.fin tab_ok (hr := ?_)
   simp only [oneOrTup]
   congr 1
   exact (stOk_big (by rw [Bool.eq_false_iff]; intro hh; have := stBig_w hh; omega)).symm
  ·try simp only [zqz] at h5
   apply G.skip
   apply G.seq
   apply G.seq
   have hin : inR t 0 20000 = true := by simp only [inR, Bool.and_eq_true, decide_eq_true_eq]; omega
   have hbig : stBig ps ks xs qs hs t = true := by unfold stBig; simp only [c1, c2, c3, c4, hin, Bool.and_self]
   clear c1 c2 c3 c4
   obtain ⟨w0, w1, w2, w3, w4, w5⟩ := stBig_w hbig
   have hp12 := (netOk_w w0).pl
   have hk30 := (netOk_w w0).kl
   have e1 : xs.length ≤ ps.length := by omega
   have e2 : ps.length ≤ xs.length := by omega
   have e3 : qs.length ≤ ks.length := by omega
   have e4 : ks.length ≤ qs.length := by omega
   have e5 : hs.length ≤ ks.length := by omega
   have e6 : ks.length ≤ hs.length := by omega
   have hnw := netOk_w w0
   clear w1 w2 w3
   refine G.rg tab_ok ok_specIsState (hk := ?_)
   apply G.block
   refine G.cn [2, 3, 48, 49, 50] [0, 1] (h := ?_)
   refine G.loopX (fun j : Nat => ⟨[(2, .ptr 0 0 0), (3, .ptr 1 0 0), (48, .row false 2 (xs.map av)), (49, .int .i64 xs.length), (50, .int .i64 j)], [some (2, [[.row false 3 (ps.map pv), .row false 5 (ks.map kv)]]), some (4, [[.row false 2 (xs.map av), .row false 1 (qs.map ivL), .row false 1 (hs.map ivL), .int .i64 t]])], 127⟩) (fun j => j ≤ xs.length ∧ ∀ k < j, actAt ps xs k = true) (fun j => xs.length - j) (0) (⟨Nat.zero_le _, by omega⟩) (by simp) ?_
   intro j hj J hJ
   obtain ⟨hj, hall⟩ := hj
   have hw : IntKind.i64.wrap ((j : Int) + 1) = (j : Int) + 1 := wrap64 (by omega) (by omega)
   apply G.seq
   refine G.rg tab_ok ok_specIsState (hk := ?_)
   apply G.seq
   refine G.iff (h1 := fun h6 => ?_) (h2 := fun h6 => ?_)
   ·try simp only [zqz] at h6
    apply G.skip
    apply G.seq
    apply G.block
    apply G.seq
    refine G.rg tab_ok ok_specIsState (hk := ?_)
    apply G.seq
    have hjp : j < ps.length := by omega
    have hjx : j < xs.length := by omega
    have hla : (ps.getD j default).l.length < 4398046511104 := hc1 _ (getD_mem0 hjp)
    have hlx : (xs.getD j default).rs.length < 17592186044416 := hc5 _ (getD_mem0 hjx)
    refine G.dr mixed tab_ok ok_specIsState [0, 1, 2, 3, 4, 5, 6, 7] (hk := ?_)
    refine G.fg [2, 3, 48, 49, 50, 62] (hk := ?_)
    refine G.iff (h1 := fun h7 => ?_) (h2 := fun h7 => ?_)
    ·try simp only [zqz] at h7
     apply G.seq
     refine G.rg tab_ok ok_specIsState (hk := ?_)
     refine G.fin tab_ok (hr := ?_)
     simp only [oneOrTup]
     congr 1
     exact (stOk_act hjp h7).symm
    ·try simp only [zqz] at h7
     apply G.skip
     apply G.blk
     refine G.rg tab_ok ok_specIsState (hk := ?_)
     refine G.cn [2, 3, 48, 49, 50] [0, 1] (h := ?_)
     exact G.upto (hJ (j + 1) ⟨by omega, up_step hall h7⟩ (by omega)) (by simp)
   ·try simp only [zqz] at h6
    refine G.exit rfl ?_
    apply G.seq
    apply G.seq
    refine G.rg tab_ok ok_specIsState (hk := ?_)
    apply G.block
    have hact : ∀ k < ps.length, actAt ps xs k = true := fun k hk => hall k (by omega)
    clear hall hJ hj
    refine G.nm [3, 65, 66, 67] (h := ?_)
    refine G.loopX (fun j : Nat => ⟨[(3, .ptr 0 0 0), (65, .row false 5 (ks.map kv)), (66, .int .i64 ks.length), (67, .int .i64 j)], [some (4, [[.row false 2 (xs.map av), .row false 1 (qs.map ivL), .row false 1 (hs.map ivL), .int .i64 t]])], 127⟩) (fun j => j ≤ ks.length ∧ ∀ k < j, linkAt ks qs hs k = true) (fun j => ks.length - j) (0) (⟨Nat.zero_le _, by omega⟩) (by simp) ?_
    intro j hj J hJ
    obtain ⟨hj, hall⟩ := hj
    have hw : IntKind.i64.wrap ((j : Int) + 1) = (j : Int) + 1 := wrap64 (by omega) (by omega)
    apply G.seq
    refine G.rg tab_ok ok_specIsState (hk := ?_)
    apply G.seq
    refine G.iff (h1 := fun h8 => ?_) (h2 := fun h8 => ?_)
    ·try simp only [zqz] at h8
     apply G.skip
     apply G.seq
     apply G.block
     apply G.seq
     have hjk : j < ks.length := by omega
     have hjq : j < qs.length := by omega
     have hjh : j < hs.length := by omega
     have hlk : (ks.getD j default).tk.length < 17592186044416 := hc2 _ (getD_mem0 hjk)
     have hlq : (qs.getD j default).length < 17592186044416 := hc8 _ (getD_mem0 hjq)
     have hlh : (hs.getD j default).length < 17592186044416 := hc10 _ (getD_mem0 hjh)
     obtain ⟨x, hx⟩ : ∃ x, ks.getD j default = x := ⟨_, rfl⟩
     obtain ⟨q, hq⟩ : ∃ x, qs.getD j default = x := ⟨_, rfl⟩
     obtain ⟨h, hh⟩ : ∃ x, hs.getD j default = x := ⟨_, rfl⟩
     rw [hx] at hlk
     rw [hq] at hlq
     rw [hh] at hlh
     refine G.rg tab_ok ok_specIsState (hk := ?_)
     apply G.seq
     refine G.rg tab_ok ok_specIsState (hk := ?_)
     apply G.seq
     refine G.rg tab_ok ok_specIsState (hk := ?_)
     apply G.seq
     apply G.seq
     refine G.rg tab_ok ok_specIsState (hk := ?_)
     refine G.fg [3, 8, 9, 10, 65, 66, 67, 102] (hk := ?_)
     refine G.iff (h1 := fun h9 => ?_) (h2 := fun h9 => ?_)
     ·try simp only [zqz] at h9
      apply G.seq
      refine G.rg tab_ok ok_specIsState (hk := ?_)
      refine G.fin tab_ok (hr := ?_)
      simp only [oneOrTup]
      congr 1
      exact (stOk_link hjk (by show linkSt _ _ _ = _; rw [hx, hq, hh]; exact link_noA h9)).symm
     ·try simp only [zqz] at h9
      apply G.skip
      apply G.seq
      refine G.rg tab_ok ok_specIsState (hk := ?_)
      refine G.fg [3, 65, 66, 67, 125] (hk := ?_)
      refine G.iff (h1 := fun h10 => ?_) (h2 := fun h10 => ?_)
      ·try simp only [zqz] at h10
       apply G.seq
       refine G.rg tab_ok ok_specIsState (hk := ?_)
       refine G.fin tab_ok (hr := ?_)
       simp only [oneOrTup]
       congr 1
       exact (stOk_link hjk (by show linkSt _ _ _ = _; rw [hx, hq, hh]; exact link_noB h10)).symm
      ·try simp only [zqz] at h10
       apply G.skip
       apply G.blk
       refine G.rg tab_ok ok_specIsState (hk := ?_)
       refine G.nm [3, 65, 66, 67] (h := ?_)
       exact G.upto (hJ (j + 1) ⟨by omega, up_step hall (by show linkSt _ _ _ = _; rw [hx, hq, hh]; exact link_yes2 h9 h10)⟩ (by omega)) (by simp)
    ·try simp only [zqz] at h8
     refine G.exit rfl ?_
     apply G.seq
     refine G.rg tab_ok ok_specIsState (hk := ?_)
     refine G.fin tab_ok (hr := ?_)
     simp only [oneOrTup]
     congr 1
     exact (stOk_yes hbig hact (fun k hk => hall k (by omega))).symm
def r_specIsState (xs0 : List A) (rr : A) : Prop := ∃ (ps : List PG) (ks : List LK) (xs : List AT) (qs : List (List Int)) (hs : List (List Int)) (t : Int), (NW ps) ∧ (KW ks) ∧ (ps.length < 3518437208781) ∧ (ks.length < 2513169434844) ∧ (XW xs) ∧ (xs.length < 4398046511104) ∧ (qs.length < 5864062014805) ∧ (LW qs) ∧ (hs.length < 5864062014805) ∧ (LW hs) ∧ xs0 = [.agg [.row false 3 (ps.map pv), .row false 5 (ks.map kv)], .agg [.row false 2 (xs.map av), .row false 1 (qs.map ivL), .row false 1 (hs.map ivL), .int .i64 t]] ∧ rr = .bool (stOk ps ks xs qs hs t)
noncomputable def q_specIsState : List A → Option A := kgr r_specIsState
theorem k_specIsState : KOk Try.prog (16, q_specIsState) := kgr_ok (enters_of Try.func16 rfl rfl) (by rintro xs0 rr ⟨ps, ks, xs, qs, hs, t, hc1, hc2, hc3, hc4, hc5, hc6, hc7, hc8, hc9, hc10, rfl, rfl⟩; exact specIsState_ac ps ks xs qs hs t hc1 hc2 hc3 hc4 hc5 hc6 hc7 hc8 hc9 hc10)
theorem e_specIsState : ∀ (ps : List PG) (ks : List LK) (xs : List AT) (qs : List (List Int)) (hs : List (List Int)) (t : Int), (NW ps) → (KW ks) → (ps.length < 3518437208781) → (ks.length < 2513169434844) → (XW xs) → (xs.length < 4398046511104) → (qs.length < 5864062014805) → (LW qs) → (hs.length < 5864062014805) → (LW hs) → q_specIsState [.agg [.row false 3 (ps.map pv), .row false 5 (ks.map kv)], .agg [.row false 2 (xs.map av), .row false 1 (qs.map ivL), .row false 1 (hs.map ivL), .int .i64 t]] = some (.bool (stOk ps ks xs qs hs t)) := by
 intro ps ks xs qs hs t hc1 hc2 hc3 hc4 hc5 hc6 hc7 hc8 hc9 hc10
 refine kgr_eq (fun xs0 rr r2 h h2 => ?_) ⟨ps, ks, xs, qs, hs, t, hc1, hc2, hc3, hc4, hc5, hc6, hc7, hc8, hc9, hc10, rfl, rfl⟩
 obtain ⟨ps1, ks1, xs1, qs1, hs1, t1, _, _, _, _, _, _, _, _, _, _, e1, rfl⟩ := h; obtain ⟨ps2, ks2, xs2, qs2, hs2, t2, _, _, _, _, _, _, _, _, _, _, e2, rfl⟩ := h2
 rw [e1] at e2
 simp only [List.cons.injEq, A.int.injEq, A.agg.injEq, A.row.injEq, pv_inj, kv_inj, av_inj, ivL_inj, true_and, and_true] at e2
 obtain ⟨⟨e1, e2⟩, e3, e4, e5, e6⟩ := e2
 subst e1 e2 e3 e4 e5 e6
 rfl
end Go.Proofs.Ytimgfinlbhodhaa.Ab
