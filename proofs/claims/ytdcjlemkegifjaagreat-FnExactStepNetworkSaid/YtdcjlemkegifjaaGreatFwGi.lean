/- Walks of functions of the program, and the plain definitions. -/
import Derived.Test.YtdcjlemkegifjaaGreatFwGg
import Derived.Test.YtdcjlemkegifjaaGreatFwGh
namespace Go.Proofs.YtdcjlemkegifjaaGreat.Ab
open Go
set_option linter.unusedVariables false
set_option linter.unusedSimpArgs false
set_option maxHeartbeats 4000000
theorem ok_l5Ends : Kn.ok Tryz.prog (kof [(72, q_l1Begins)]) := kof_cons k_l1Begins ((kof_nil _))
theorem l5Ends_ac (a : List Int) (b : List Int) (hc1 : a.length < 17592186044416) (hc2 : b.length < 17592186044416) : AC Tryz.prog 73 [.row false 1 (a.map iv), .row false 1 (b.map iv)] (.bool (endB a b)) := by
 have e_l1Begins := e_l1Begins
 have hft : (false == true) = false := rfl
 have htf : (true == false) = false := rfl
 refine AC.of tab_ok Tryz.func73 rfl (Nat.le_of_ble_eq_true rfl) fun w0 S0 => ?_
 change G _ _ ⟨[(0, .row false 1 (a.map iv)), (1, .row false 1 (b.map iv))], [], 21⟩
 apply G.seq
 refine G.rg tab_ok ok_l5Ends (hk := ?_)
 apply G.seq
 rcases (show (a.length : Int) ≤ (b.length : Int) ∨ ¬ (a.length : Int) ≤ (b.length : Int) by omega) with c1 | c1
 ·skip
  have c2 : a.length ≤ b.length := by omega
  have hw0 : IntKind.i64.wrap ((b.length : Int) - (a.length : Int)) = ((b.length - a.length : Nat) : Int) := by rw [wrap64 (by omega) (by omega)]; omega
  have c3 : b.length - a.length ≤ b.length := by omega
  have hdr : List.drop (b.length - a.length) (b.map iv) = (b.drop (b.length - a.length)).map iv := (List.map_drop ..).symm
  have hlt : b.length - (b.length - a.length) < 17592186044416 := by omega
  have hct : List.take b.length (b.map iv) = b.map iv := List.take_of_length_le (by simp)
  refine G.rgN 5 tab_ok ok_l5Ends (hk := ?_)
  refine G.rdC tab_ok ok_l5Ends (hk := ?_)
  refine G.fin tab_ok (hr := ?_)
  simp only [oneOrTup]
  congr 1
  exact endB_beg c2
 ·skip
  refine G.rgN 5 tab_ok ok_l5Ends (hk := ?_)
  refine G.rdC tab_ok ok_l5Ends (hk := ?_)
  refine G.fin tab_ok (hr := ?_)
  simp only [oneOrTup]
  congr 1
  exact (endB_long (by omega)).symm
def r_l5Ends (xs0 : List A) (rr : A) : Prop := ∃ (a : List Int) (b : List Int), (a.length < 17592186044416) ∧ (b.length < 17592186044416) ∧ xs0 = [.row false 1 (a.map iv), .row false 1 (b.map iv)] ∧ rr = .bool (endB a b)
noncomputable def q_l5Ends : List A → Option A := kgr r_l5Ends
theorem k_l5Ends : KOk Tryz.prog (73, q_l5Ends) := kgr_ok (enters_of Tryz.func73 rfl rfl) (by rintro xs0 rr ⟨a, b, hc1, hc2, rfl, rfl⟩; exact l5Ends_ac a b hc1 hc2)
theorem e_l5Ends : ∀ (a : List Int) (b : List Int), (a.length < 17592186044416) → (b.length < 17592186044416) → q_l5Ends [.row false 1 (a.map iv), .row false 1 (b.map iv)] = some (.bool (endB a b)) := by
 intro a b hc1 hc2
 refine kgr_eq (fun xs0 rr r2 h h2 => ?_) ⟨a, b, hc1, hc2, rfl, rfl⟩
 obtain ⟨a1, b1, _, _, e1, rfl⟩ := h; obtain ⟨a2, b2, _, _, e2, rfl⟩ := h2
 rw [e1] at e2
 simp only [List.cons.injEq, A.int.injEq, A.bool.injEq, A.agg.injEq, A.row.injEq, A.fn.injEq, A.rp.injEq, insv_inj, iv_inj, true_and, and_true] at e2
 simp [e2]
theorem ok_specIsState : Kn.ok Tryz.prog (kof [(68, q_specIsNetwork), (69, q_l1In), (70, q_l2Actor), (71, q_specIsStream), (72, q_l1Begins), (73, q_l5Ends)]) := kof_cons k_specIsNetwork (kof_cons k_l1In (kof_cons k_l2Actor (kof_cons k_specIsStream (kof_cons k_l1Begins (kof_cons k_l5Ends ((kof_nil _)))))))
theorem specIsState_ac (ps : List PG) (ks : List LK) (xs : List AT) (qs : List (List Int)) (hs : List (List Int)) (t : Int) (hc1 : NW ps) (hc2 : KW ks) (hc3 : ps.length < 3518437208781) (hc4 : ks.length < 2513169434844) (hc5 : XW xs) (hc6 : xs.length < 4398046511104) (hc7 : qs.length < 5864062014805) (hc8 : LW qs) (hc9 : hs.length < 5864062014805) (hc10 : LW hs) : AC Tryz.prog 43 [.agg [.row false 3 (ps.map pv), .row false 5 (ks.map kv)], .agg [.row false 2 (xs.map av), .row false 1 (qs.map ivL), .row false 1 (hs.map ivL), .int .i64 t]] (.bool (stOk ps ks xs qs hs t)) := by
 have e_specIsNetwork := e_specIsNetwork
 have e_l1In := e_l1In
 have e_l2Actor := e_l2Actor
 have e_specIsStream := e_specIsStream
 have e_l1Begins := e_l1Begins
 have e_l5Ends := e_l5Ends
 have hivl := ivL_eq
 have hft : (false == true) = false := rfl
 have htf : (true == false) = false := rfl
 refine AC.of tab_ok Tryz.func43 rfl (Nat.le_of_ble_eq_true rfl) fun w0 S0 => ?_
 change G _ _ ⟨[(0, .agg [.row false 3 (ps.map pv), .row false 5 (ks.map kv)]), (1, .agg [.row false 2 (xs.map av), .row false 1 (qs.map ivL), .row false 1 (hs.map ivL), .int .i64 t])], [], 127⟩
 apply G.seq
 refine G.rg tab_ok ok_specIsState (hk := ?_)
 apply G.seq
 apply G.seq
 rcases (show netOk ps ks = false ∨ (netOk ps ks = true ∧ ((xs.length : Int) == (ps.length : Int)) = false) ∨ (netOk ps ks = true ∧ ((xs.length : Int) == (ps.length : Int)) = true ∧ ((qs.length : Int) == (ks.length : Int)) = false) ∨ (netOk ps ks = true ∧ ((xs.length : Int) == (ps.length : Int)) = true ∧ ((qs.length : Int) == (ks.length : Int)) = true ∧ ((hs.length : Int) == (ks.length : Int)) = false) ∨ (netOk ps ks = true ∧ ((xs.length : Int) == (ps.length : Int)) = true ∧ ((qs.length : Int) == (ks.length : Int)) = true ∧ ((hs.length : Int) == (ks.length : Int)) = true) by cases netOk ps ks <;> cases ((xs.length : Int) == (ps.length : Int)) <;> cases ((qs.length : Int) == (ks.length : Int)) <;> cases ((hs.length : Int) == (ks.length : Int)) <;> simp) with c1 | ⟨c1, c2⟩ | ⟨c1, c2, c3⟩ | ⟨c1, c2, c3, c4⟩ | ⟨c1, c2, c3, c4⟩
 ·skip
  refine G.rgN 4 tab_ok ok_specIsState (hk := ?_)
  refine G.rdC tab_ok ok_specIsState (hk := ?_)
  refine G.iffT (h1 := ?_)
  apply G.seq
  refine G.fg [] (hk := ?_)
  refine G.rg tab_ok ok_specIsState (hk := ?_)
  refine G.fin tab_ok (hr := ?_)
  simp only [oneOrTup]
  congr 1
  exact (stOk_big (by unfold stBig; simp only [c1, Bool.false_and, Bool.and_false])).symm
 ·skip
  refine G.rgN 4 tab_ok ok_specIsState (hk := ?_)
  refine G.rdC tab_ok ok_specIsState (hk := ?_)
  refine G.iffT (h1 := ?_)
  apply G.seq
  refine G.fg [] (hk := ?_)
  refine G.rg tab_ok ok_specIsState (hk := ?_)
  refine G.fin tab_ok (hr := ?_)
  simp only [oneOrTup]
  congr 1
  exact (stOk_big (by unfold stBig; simp only [c2, Bool.false_and, Bool.and_false])).symm
 ·skip
  refine G.rgN 4 tab_ok ok_specIsState (hk := ?_)
  refine G.rdC tab_ok ok_specIsState (hk := ?_)
  refine G.iffT (h1 := ?_)
  apply G.seq
  refine G.fg [] (hk := ?_)
  refine G.rg tab_ok ok_specIsState (hk := ?_)
  refine G.fin tab_ok (hr := ?_)
  simp only [oneOrTup]
  congr 1
  exact (stOk_big (by unfold stBig; simp only [c3, Bool.false_and, Bool.and_false])).symm
 ·skip
  refine G.rgN 4 tab_ok ok_specIsState (hk := ?_)
  refine G.rdC tab_ok ok_specIsState (hk := ?_)
  refine G.iffT (h1 := ?_)
  apply G.seq
  refine G.fg [] (hk := ?_)
  refine G.rg tab_ok ok_specIsState (hk := ?_)
  refine G.fin tab_ok (hr := ?_)
  simp only [oneOrTup]
  congr 1
  exact (stOk_big (by unfold stBig; simp only [c4, Bool.false_and, Bool.and_false])).symm
 ·skip
  refine G.rgN 4 tab_ok ok_specIsState (hk := ?_)
  refine G.rdC tab_ok ok_specIsState (hk := ?_)
  refine G.fg [2, 3, 46, 55, 56, 57, 58, 59, 60, 61] (hk := ?_)
  refine G.iff (h1 := fun h5 => ?_) (h2 := fun h5 => ?_)
  ·try simp only [zqz] at h5
   apply G.seq
   refine G.rg tab_ok ok_specIsState (hk := ?_)
   refine G.fin tab_ok (hr := ?_)
   simp only [oneOrTup]
   congr 1
   exact (stOk_big (by rw [Bool.eq_false_iff]; intro hh; have := stBig_w hh; omega)).symm
  ·try simp only [zqz] at h5
   apply G.skip
   apply G.seq
   apply G.seq
   have hin : inR t 0 20000 = true := by simp only [inR, Bool.and_eq_true, decide_eq_true_eq]; omega
   have hbig : stBig ps ks xs qs hs t = true := by unfold stBig; simp only [c1, c2, c3, c4, hin, Bool.and_self]
   clear c1 c2 c3 c4
   obtain ⟨w0, w1, w2, w3, w4, w5⟩ := stBig_w hbig
   have hp12 := (netOk_w w0).pl
   have hk30 := (netOk_w w0).kl
   have e1 : xs.length ≤ ps.length := by omega
   have e2 : ps.length ≤ xs.length := by omega
   have e3 : qs.length ≤ ks.length := by omega
   have e4 : ks.length ≤ qs.length := by omega
   have e5 : hs.length ≤ ks.length := by omega
   have e6 : ks.length ≤ hs.length := by omega
   have hnw := netOk_w w0
   clear w1 w2 w3
   refine G.rg tab_ok ok_specIsState (hk := ?_)
   apply G.block
   refine G.cn [2, 3, 48, 49, 50] [0, 1] (h := ?_)
   refine G.loopX (fun j : Nat => ⟨[(2, .ptr 0 0 0), (3, .ptr 1 0 0), (48, .row false 2 (xs.map av)), (49, .int .i64 xs.length), (50, .int .i64 j)], [some (2, [[.row false 3 (ps.map pv), .row false 5 (ks.map kv)]]), some (4, [[.row false 2 (xs.map av), .row false 1 (qs.map ivL), .row false 1 (hs.map ivL), .int .i64 t]])], 127⟩) (fun j => j ≤ xs.length ∧ ∀ k < j, actAt ps xs k = true) (fun j => xs.length - j) (0) (⟨Nat.zero_le _, by omega⟩) (by simp) ?_
   intro j hj J hJ
   obtain ⟨hj, hall⟩ := hj
   have hw : IntKind.i64.wrap ((j : Int) + 1) = (j : Int) + 1 := wrap64 (by omega) (by omega)
   apply G.seq
   refine G.rg tab_ok ok_specIsState (hk := ?_)
   apply G.seq
   refine G.iff (h1 := fun h6 => ?_) (h2 := fun h6 => ?_)
   ·try simp only [zqz] at h6
    apply G.skip
    apply G.seq
    apply G.block
    apply G.seq
    refine G.rg tab_ok ok_specIsState (hk := ?_)
    apply G.seq
    have hjp : j < ps.length := by omega
    have hjx : j < xs.length := by omega
    have hla : (ps.getD j default).l.length < 4398046511104 := hc1 _ (getD_mem0 hjp)
    have hlx : (xs.getD j default).rs.length < 17592186044416 := hc5 _ (getD_mem0 hjx)
    refine G.dr mixed tab_ok ok_specIsState [0, 1, 2, 3, 4, 5, 6, 7] (hk := ?_)
    refine G.fg [2, 3, 48, 49, 50, 62] (hk := ?_)
    refine G.iff (h1 := fun h7 => ?_) (h2 := fun h7 => ?_)
    ·try simp only [zqz] at h7
     apply G.seq
     refine G.rg tab_ok ok_specIsState (hk := ?_)
     refine G.fin tab_ok (hr := ?_)
     simp only [oneOrTup]
     congr 1
     exact (stOk_act hjp h7).symm
    ·try simp only [zqz] at h7
     apply G.skip
     apply G.blk
     refine G.rg tab_ok ok_specIsState (hk := ?_)
     refine G.cn [2, 3, 48, 49, 50] [0, 1] (h := ?_)
     exact G.upto (hJ (j + 1) ⟨by omega, up_step hall h7⟩ (by omega)) (by simp)
   ·try simp only [zqz] at h6
    refine G.exit rfl ?_
    apply G.seq
    apply G.seq
    refine G.rg tab_ok ok_specIsState (hk := ?_)
    apply G.block
    have hact : ∀ k < ps.length, actAt ps xs k = true := fun k hk => hall k (by omega)
    clear hall hJ hj
    refine G.nm [3, 65, 66, 67] (h := ?_)
    refine G.loopX (fun j : Nat => ⟨[(3, .ptr 0 0 0), (65, .row false 5 (ks.map kv)), (66, .int .i64 ks.length), (67, .int .i64 j)], [some (4, [[.row false 2 (xs.map av), .row false 1 (qs.map ivL), .row false 1 (hs.map ivL), .int .i64 t]])], 127⟩) (fun j => j ≤ ks.length ∧ ∀ k < j, linkAt ks qs hs k = true) (fun j => ks.length - j) (0) (⟨Nat.zero_le _, by omega⟩) (by simp) ?_
    intro j hj J hJ
    obtain ⟨hj, hall⟩ := hj
    have hw : IntKind.i64.wrap ((j : Int) + 1) = (j : Int) + 1 := wrap64 (by omega) (by omega)
    apply G.seq
    refine G.rg tab_ok ok_specIsState (hk := ?_)
    apply G.seq
    refine G.iff (h1 := fun h8 => ?_) (h2 := fun h8 => ?_)
    ·try simp only [zqz] at h8
     apply G.skip
     apply G.seq
     apply G.block
     apply G.seq
     have hjk : j < ks.length := by omega
     have hjq : j < qs.length := by omega
     have hjh : j < hs.length := by omega
     have hlk : (ks.getD j default).tk.length < 17592186044416 := hc2 _ (getD_mem0 hjk)
     have hlq : (qs.getD j default).length < 17592186044416 := hc8 _ (getD_mem0 hjq)
     have hlh : (hs.getD j default).length < 17592186044416 := hc10 _ (getD_mem0 hjh)
     obtain ⟨x, hx⟩ : ∃ x, ks.getD j default = x := ⟨_, rfl⟩
     obtain ⟨q, hq⟩ : ∃ x, qs.getD j default = x := ⟨_, rfl⟩
     obtain ⟨h, hh⟩ : ∃ x, hs.getD j default = x := ⟨_, rfl⟩
     rw [hx] at hlk
     rw [hq] at hlq
     rw [hh] at hlh
     refine G.rg tab_ok ok_specIsState (hk := ?_)
     apply G.seq
     refine G.rg tab_ok ok_specIsState (hk := ?_)
     apply G.seq
     refine G.rg tab_ok ok_specIsState (hk := ?_)
     apply G.seq
     apply G.seq
     refine G.rg tab_ok ok_specIsState (hk := ?_)
     refine G.fg [3, 8, 9, 10, 65, 66, 67, 102] (hk := ?_)
     refine G.iff (h1 := fun h9 => ?_) (h2 := fun h9 => ?_)
     ·try simp only [zqz] at h9
      apply G.seq
      refine G.rg tab_ok ok_specIsState (hk := ?_)
      refine G.fin tab_ok (hr := ?_)
      simp only [oneOrTup]
      congr 1
      exact (stOk_link hjk (by show linkSt _ _ _ = _; rw [hx, hq, hh]; exact link_noA h9)).symm
     ·try simp only [zqz] at h9
      apply G.skip
      apply G.seq
      refine G.rg tab_ok ok_specIsState (hk := ?_)
      refine G.fg [3, 65, 66, 67, 125] (hk := ?_)
      refine G.iff (h1 := fun h10 => ?_) (h2 := fun h10 => ?_)
      ·try simp only [zqz] at h10
       apply G.seq
       refine G.rg tab_ok ok_specIsState (hk := ?_)
       refine G.fin tab_ok (hr := ?_)
       simp only [oneOrTup]
       congr 1
       exact (stOk_link hjk (by show linkSt _ _ _ = _; rw [hx, hq, hh]; exact link_noB h10)).symm
      ·try simp only [zqz] at h10
       apply G.skip
       apply G.blk
       refine G.rg tab_ok ok_specIsState (hk := ?_)
       refine G.nm [3, 65, 66, 67] (h := ?_)
       exact G.upto (hJ (j + 1) ⟨by omega, up_step hall (by show linkSt _ _ _ = _; rw [hx, hq, hh]; exact link_yes2 h9 h10)⟩ (by omega)) (by simp)
    ·try simp only [zqz] at h8
     refine G.exit rfl ?_
     apply G.seq
     refine G.rg tab_ok ok_specIsState (hk := ?_)
     refine G.fin tab_ok (hr := ?_)
     simp only [oneOrTup]
     congr 1
     exact (stOk_yes hbig hact (fun k hk => hall k (by omega))).symm
def r_specIsState (xs0 : List A) (rr : A) : Prop := ∃ (ps : List PG) (ks : List LK) (xs : List AT) (qs : List (List Int)) (hs : List (List Int)) (t : Int), (NW ps) ∧ (KW ks) ∧ (ps.length < 3518437208781) ∧ (ks.length < 2513169434844) ∧ (XW xs) ∧ (xs.length < 4398046511104) ∧ (qs.length < 5864062014805) ∧ (LW qs) ∧ (hs.length < 5864062014805) ∧ (LW hs) ∧ xs0 = [.agg [.row false 3 (ps.map pv), .row false 5 (ks.map kv)], .agg [.row false 2 (xs.map av), .row false 1 (qs.map ivL), .row false 1 (hs.map ivL), .int .i64 t]] ∧ rr = .bool (stOk ps ks xs qs hs t)
noncomputable def q_specIsState : List A → Option A := kgr r_specIsState
theorem k_specIsState : KOk Tryz.prog (43, q_specIsState) := kgr_ok (enters_of Tryz.func43 rfl rfl) (by rintro xs0 rr ⟨ps, ks, xs, qs, hs, t, hc1, hc2, hc3, hc4, hc5, hc6, hc7, hc8, hc9, hc10, rfl, rfl⟩; exact specIsState_ac ps ks xs qs hs t hc1 hc2 hc3 hc4 hc5 hc6 hc7 hc8 hc9 hc10)
theorem e_specIsState : ∀ (ps : List PG) (ks : List LK) (xs : List AT) (qs : List (List Int)) (hs : List (List Int)) (t : Int), (NW ps) → (KW ks) → (ps.length < 3518437208781) → (ks.length < 2513169434844) → (XW xs) → (xs.length < 4398046511104) → (qs.length < 5864062014805) → (LW qs) → (hs.length < 5864062014805) → (LW hs) → q_specIsState [.agg [.row false 3 (ps.map pv), .row false 5 (ks.map kv)], .agg [.row false 2 (xs.map av), .row false 1 (qs.map ivL), .row false 1 (hs.map ivL), .int .i64 t]] = some (.bool (stOk ps ks xs qs hs t)) := by
 intro ps ks xs qs hs t hc1 hc2 hc3 hc4 hc5 hc6 hc7 hc8 hc9 hc10
 refine kgr_eq (fun xs0 rr r2 h h2 => ?_) ⟨ps, ks, xs, qs, hs, t, hc1, hc2, hc3, hc4, hc5, hc6, hc7, hc8, hc9, hc10, rfl, rfl⟩
 obtain ⟨ps1, ks1, xs1, qs1, hs1, t1, _, _, _, _, _, _, _, _, _, _, e1, rfl⟩ := h; obtain ⟨ps2, ks2, xs2, qs2, hs2, t2, _, _, _, _, _, _, _, _, _, _, e2, rfl⟩ := h2
 rw [e1] at e2
 simp only [List.cons.injEq, A.int.injEq, A.agg.injEq, A.row.injEq, pv_inj, kv_inj, av_inj, ivL_inj, true_and, and_true] at e2
 obtain ⟨⟨e1, e2⟩, e3, e4, e5, e6⟩ := e2
 subst e1 e2 e3 e4 e5 e6
 rfl
theorem ok_implIsState : Kn.ok Tryz.prog (kof [(78, q_implIsNetwork), (79, q_isActor0), (80, q_implIsStream), (81, q_implIsPrefix), (82, q_eqSl)]) := kof_cons k_implIsNetwork (kof_cons k_isActor0 (kof_cons k_implIsStream (kof_cons k_implIsPrefix (kof_cons k_eqSl ((kof_nil _))))))
theorem implIsState_ac (ps : List PG) (ks : List LK) (xs : List AT) (qs : List (List Int)) (hs : List (List Int)) (t : Int) (hc1 : NW ps) (hc2 : KW ks) (hc3 : ps.length < 3518437208781) (hc4 : ks.length < 2513169434844) (hc5 : XW xs) (hc6 : xs.length < 4398046511104) (hc7 : qs.length < 5864062014805) (hc8 : LW qs) (hc9 : hs.length < 5864062014805) (hc10 : LW hs) : AC Tryz.prog 54 [.agg [.row false 3 (ps.map pv), .row false 5 (ks.map kv)], .agg [.row false 2 (xs.map av), .row false 1 (qs.map ivL), .row false 1 (hs.map ivL), .int .i64 t]] (.bool (stOk ps ks xs qs hs t)) := by
 have e_implIsNetwork := e_implIsNetwork
 have e_isActor0 := e_isActor0
 have e_implIsStream := e_implIsStream
 have e_implIsPrefix := e_implIsPrefix
 have e_eqSl := e_eqSl
 have hivl := ivL_eq
 have hft : (false == true) = false := rfl
 have htf : (true == false) = false := rfl
 refine AC.of tab_ok Tryz.func54 rfl (Nat.le_of_ble_eq_true rfl) fun w0 S0 => ?_
 change G _ _ ⟨[(0, .agg [.row false 3 (ps.map pv), .row false 5 (ks.map kv)]), (1, .agg [.row false 2 (xs.map av), .row false 1 (qs.map ivL), .row false 1 (hs.map ivL), .int .i64 t])], [], 139⟩
 apply G.seq
 refine G.rg tab_ok ok_implIsState (hk := ?_)
 apply G.seq
 apply G.seq
 rcases (show netOk ps ks = false ∨ (netOk ps ks = true ∧ ((xs.length : Int) == (ps.length : Int)) = false) ∨ (netOk ps ks = true ∧ ((xs.length : Int) == (ps.length : Int)) = true ∧ ((qs.length : Int) == (ks.length : Int)) = false) ∨ (netOk ps ks = true ∧ ((xs.length : Int) == (ps.length : Int)) = true ∧ ((qs.length : Int) == (ks.length : Int)) = true ∧ ((hs.length : Int) == (ks.length : Int)) = false) ∨ (netOk ps ks = true ∧ ((xs.length : Int) == (ps.length : Int)) = true ∧ ((qs.length : Int) == (ks.length : Int)) = true ∧ ((hs.length : Int) == (ks.length : Int)) = true ∧ t < 0) ∨ (netOk ps ks = true ∧ ((xs.length : Int) == (ps.length : Int)) = true ∧ ((qs.length : Int) == (ks.length : Int)) = true ∧ ((hs.length : Int) == (ks.length : Int)) = true ∧ ¬ t < 0) by cases netOk ps ks <;> cases ((xs.length : Int) == (ps.length : Int)) <;> cases ((qs.length : Int) == (ks.length : Int)) <;> cases ((hs.length : Int) == (ks.length : Int)) <;> simp <;> omega) with c1 | ⟨c1, c2⟩ | ⟨c1, c2, c3⟩ | ⟨c1, c2, c3, c4⟩ | ⟨c1, c2, c3, c4, c5⟩ | ⟨c1, c2, c3, c4, c5⟩
 ·skip
  refine G.rgN 4 tab_ok ok_implIsState (hk := ?_)
  refine G.rdC tab_ok ok_implIsState (hk := ?_)
  refine G.iffT (h1 := ?_)
  apply G.seq
  refine G.fg [] (hk := ?_)
  refine G.rg tab_ok ok_implIsState (hk := ?_)
  refine G.fin tab_ok (hr := ?_)
  simp only [oneOrTup]
  congr 1
  exact (stOk_big (by unfold stBig; simp only [c1, Bool.false_and, Bool.and_false])).symm
 ·skip
  refine G.rgN 4 tab_ok ok_implIsState (hk := ?_)
  refine G.rdC tab_ok ok_implIsState (hk := ?_)
  refine G.iffT (h1 := ?_)
  apply G.seq
  refine G.fg [] (hk := ?_)
  refine G.rg tab_ok ok_implIsState (hk := ?_)
  refine G.fin tab_ok (hr := ?_)
  simp only [oneOrTup]
  congr 1
  exact (stOk_big (by unfold stBig; simp only [c2, Bool.false_and, Bool.and_false])).symm
 ·skip
  refine G.rgN 4 tab_ok ok_implIsState (hk := ?_)
  refine G.rdC tab_ok ok_implIsState (hk := ?_)
  refine G.iffT (h1 := ?_)
  apply G.seq
  refine G.fg [] (hk := ?_)
  refine G.rg tab_ok ok_implIsState (hk := ?_)
  refine G.fin tab_ok (hr := ?_)
  simp only [oneOrTup]
  congr 1
  exact (stOk_big (by unfold stBig; simp only [c3, Bool.false_and, Bool.and_false])).symm
 ·skip
  refine G.rgN 4 tab_ok ok_implIsState (hk := ?_)
  refine G.rdC tab_ok ok_implIsState (hk := ?_)
  refine G.iffT (h1 := ?_)
  apply G.seq
  refine G.fg [] (hk := ?_)
  refine G.rg tab_ok ok_implIsState (hk := ?_)
  refine G.fin tab_ok (hr := ?_)
  simp only [oneOrTup]
  congr 1
  exact (stOk_big (by unfold stBig; simp only [c4, Bool.false_and, Bool.and_false])).symm
 ·skip
  refine G.rgN 4 tab_ok ok_implIsState (hk := ?_)
  refine G.rdC tab_ok ok_implIsState (hk := ?_)
  refine G.iffT (h1 := ?_)
  apply G.seq
  refine G.fg [] (hk := ?_)
  refine G.rg tab_ok ok_implIsState (hk := ?_)
  refine G.fin tab_ok (hr := ?_)
  simp only [oneOrTup]
  congr 1
  exact (stOk_big (by rw [Bool.eq_false_iff]; intro hh; have := stBig_w hh; omega)).symm
 ·skip
  refine G.rgN 4 tab_ok ok_implIsState (hk := ?_)
  refine G.rdC tab_ok ok_implIsState (hk := ?_)
  refine G.fg [2, 3, 50, 59, 60, 61, 62, 63, 64, 65, 76, 77, 78, 79, 80, 81, 82, 83, 84, 85] (hk := ?_)
  refine G.iff (h1 := fun h6 => ?_) (h2 := fun h6 => ?_)
  ·try simp only [zqz] at h6
   apply G.seq
   refine G.rg tab_ok ok_implIsState (hk := ?_)
   refine G.fin tab_ok (hr := ?_)
   simp only [oneOrTup]
   congr 1
   exact (stOk_big (by rw [Bool.eq_false_iff]; intro hh; have := stBig_w hh; omega)).symm
  ·try simp only [zqz] at h6
   apply G.skip
   apply G.seq
   apply G.seq
   have hin : inR t 0 20000 = true := by simp only [inR, Bool.and_eq_true, decide_eq_true_eq]; omega
   have hbig : stBig ps ks xs qs hs t = true := by unfold stBig; simp only [c1, c2, c3, c4, hin, Bool.and_self]
   clear c1 c2 c3 c4
   obtain ⟨w0, w1, w2, w3, w4, w5⟩ := stBig_w hbig
   have hp12 := (netOk_w w0).pl
   have hk30 := (netOk_w w0).kl
   have e1 : xs.length ≤ ps.length := by omega
   have e2 : ps.length ≤ xs.length := by omega
   have e3 : qs.length ≤ ks.length := by omega
   have e4 : ks.length ≤ qs.length := by omega
   have e5 : hs.length ≤ ks.length := by omega
   have e6 : ks.length ≤ hs.length := by omega
   have hnw := netOk_w w0
   clear w1 w2 w3
   refine G.rg tab_ok ok_implIsState (hk := ?_)
   apply G.block
   refine G.cn [2, 3, 52, 53, 54] [0, 1] (h := ?_)
   refine G.loopX (fun j : Nat => ⟨[(2, .ptr 0 0 0), (3, .ptr 1 0 0), (52, .row false 3 (ps.map pv)), (53, .int .i64 ps.length), (54, .int .i64 j)], [some (2, [[.row false 3 (ps.map pv), .row false 5 (ks.map kv)]]), some (4, [[.row false 2 (xs.map av), .row false 1 (qs.map ivL), .row false 1 (hs.map ivL), .int .i64 t]])], 139⟩) (fun j => j ≤ ps.length ∧ ∀ k < j, actAt ps xs k = true) (fun j => ps.length - j) (0) (⟨Nat.zero_le _, by omega⟩) (by simp) ?_
   intro j hj J hJ
   obtain ⟨hj, hall⟩ := hj
   have hw : IntKind.i64.wrap ((j : Int) + 1) = (j : Int) + 1 := wrap64 (by omega) (by omega)
   apply G.seq
   refine G.rg tab_ok ok_implIsState (hk := ?_)
   apply G.seq
   refine G.iff (h1 := fun h7 => ?_) (h2 := fun h7 => ?_)
   ·try simp only [zqz] at h7
    apply G.skip
    apply G.seq
    apply G.block
    apply G.seq
    refine G.rg tab_ok ok_implIsState (hk := ?_)
    apply G.seq
    have hjp : j < ps.length := by omega
    have hjx : j < xs.length := by omega
    have hla : (ps.getD j default).l.length < 4398046511104 := hc1 _ (getD_mem0 hjp)
    have hlx : (xs.getD j default).rs.length < 17592186044416 := hc5 _ (getD_mem0 hjx)
    refine G.dr mixed tab_ok ok_implIsState [0, 1, 2, 3, 4, 5, 6, 7] (hk := ?_)
    refine G.fg [2, 3, 52, 53, 54, 66] (hk := ?_)
    refine G.iff (h1 := fun h8 => ?_) (h2 := fun h8 => ?_)
    ·try simp only [zqz] at h8
     apply G.seq
     refine G.rg tab_ok ok_implIsState (hk := ?_)
     refine G.fin tab_ok (hr := ?_)
     simp only [oneOrTup]
     congr 1
     exact (stOk_act hjp h8).symm
    ·try simp only [zqz] at h8
     apply G.skip
     apply G.blk
     refine G.rg tab_ok ok_implIsState (hk := ?_)
     refine G.cn [2, 3, 52, 53, 54] [0, 1] (h := ?_)
     exact G.upto (hJ (j + 1) ⟨by omega, up_step hall h8⟩ (by omega)) (by simp)
   ·try simp only [zqz] at h7
    refine G.exit rfl ?_
    apply G.seq
    apply G.seq
    refine G.rg tab_ok ok_implIsState (hk := ?_)
    apply G.block
    have hact : ∀ k < ps.length, actAt ps xs k = true := fun k hk => hall k (by omega)
    clear hall hJ hj
    refine G.nm [3, 69, 70, 71] (h := ?_)
    refine G.loopX (fun j : Nat => ⟨[(3, .ptr 0 0 0), (69, .row false 5 (ks.map kv)), (70, .int .i64 ks.length), (71, .int .i64 j)], [some (4, [[.row false 2 (xs.map av), .row false 1 (qs.map ivL), .row false 1 (hs.map ivL), .int .i64 t]])], 139⟩) (fun j => j ≤ ks.length ∧ ∀ k < j, linkAt ks qs hs k = true) (fun j => ks.length - j) (0) (⟨Nat.zero_le _, by omega⟩) (by simp) ?_
    intro j hj J hJ
    obtain ⟨hj, hall⟩ := hj
    have hw : IntKind.i64.wrap ((j : Int) + 1) = (j : Int) + 1 := wrap64 (by omega) (by omega)
    apply G.seq
    refine G.rg tab_ok ok_implIsState (hk := ?_)
    apply G.seq
    refine G.iff (h1 := fun h9 => ?_) (h2 := fun h9 => ?_)
    ·try simp only [zqz] at h9
     apply G.skip
     apply G.seq
     apply G.block
     apply G.seq
     have hjk : j < ks.length := by omega
     have hjq : j < qs.length := by omega
     have hjh : j < hs.length := by omega
     have hlk : (ks.getD j default).tk.length < 17592186044416 := hc2 _ (getD_mem0 hjk)
     have hlq : (qs.getD j default).length < 17592186044416 := hc8 _ (getD_mem0 hjq)
     have hlh : (hs.getD j default).length < 17592186044416 := hc10 _ (getD_mem0 hjh)
     obtain ⟨x, hx⟩ : ∃ x, ks.getD j default = x := ⟨_, rfl⟩
     obtain ⟨q, hq⟩ : ∃ x, qs.getD j default = x := ⟨_, rfl⟩
     obtain ⟨h, hh⟩ : ∃ x, hs.getD j default = x := ⟨_, rfl⟩
     rw [hx] at hlk
     rw [hq] at hlq
     rw [hh] at hlh
     have hstr := lk_str w0 hjk
     rw [hx] at hstr
     refine G.rg tab_ok ok_implIsState (hk := ?_)
     apply G.seq
     refine G.dr mixed tab_ok ok_implIsState [0, 1, 2, 3, 4, 5, 6, 7, 8, 9, 10, 11] (hk := ?_)
     apply G.seq
     apply G.seq
     rcases (show strOk q = false ∨ (strOk q = true ∧ pfxB x.tk h = false) ∨ (strOk q = true ∧ pfxB x.tk h = true ∧ ¬ q.length ≤ h.length) ∨ (strOk q = true ∧ pfxB x.tk h = true ∧ q.length ≤ h.length) by cases strOk q <;> cases pfxB x.tk h <;> simp; omega) with d1 | ⟨d1, d2⟩ | ⟨d1, d2, d3⟩ | ⟨d1, d2, d3⟩
     ·skip
      refine G.fg [3, 8, 9, 10, 69, 70, 71] (hk := ?_)
      refine G.rgN 4 tab_ok ok_implIsState (hk := ?_)
      refine G.rdN 8 tab_ok ok_implIsState (hk := ?_)
      refine G.rdN 8 tab_ok ok_implIsState (hk := ?_)
      refine G.rdC tab_ok ok_implIsState (hk := ?_)
      refine G.iffT (h1 := ?_)
      apply G.seq
      refine G.fg [] (hk := ?_)
      refine G.rg tab_ok ok_implIsState (hk := ?_)
      refine G.fin tab_ok (hr := ?_)
      simp only [oneOrTup]
      congr 1
      exact (stOk_link hjk (by show linkSt _ _ _ = _; rw [hx, hq, hh]; exact link_q d1)).symm
     ·skip
      refine G.fg [3, 8, 9, 10, 69, 70, 71] (hk := ?_)
      refine G.rgN 4 tab_ok ok_implIsState (hk := ?_)
      refine G.rdN 8 tab_ok ok_implIsState (hk := ?_)
      refine G.rdN 8 tab_ok ok_implIsState (hk := ?_)
      refine G.rdC tab_ok ok_implIsState (hk := ?_)
      refine G.iffT (h1 := ?_)
      apply G.seq
      refine G.fg [] (hk := ?_)
      refine G.rg tab_ok ok_implIsState (hk := ?_)
      refine G.fin tab_ok (hr := ?_)
      simp only [oneOrTup]
      congr 1
      exact (stOk_link hjk (by show linkSt _ _ _ = _; rw [hx, hq, hh]; exact link_pfx hstr d2)).symm
     ·skip
      have d4 : (q.length : Int) > (h.length : Int) := by omega
      refine G.fg [3, 8, 9, 10, 69, 70, 71] (hk := ?_)
      refine G.rgN 4 tab_ok ok_implIsState (hk := ?_)
      refine G.rdN 8 tab_ok ok_implIsState (hk := ?_)
      refine G.rdN 8 tab_ok ok_implIsState (hk := ?_)
      refine G.rdC tab_ok ok_implIsState (hk := ?_)
      refine G.iffT (h1 := ?_)
      apply G.seq
      refine G.fg [] (hk := ?_)
      refine G.rg tab_ok ok_implIsState (hk := ?_)
      refine G.fin tab_ok (hr := ?_)
      simp only [oneOrTup]
      congr 1
      exact (stOk_link hjk (by show linkSt _ _ _ = _; rw [hx, hq, hh]; exact link_long d3)).symm
     ·skip
      have d4 : ¬ (q.length : Int) > (h.length : Int) := by omega
      have hw0 : IntKind.i64.wrap ((h.length : Int) - (q.length : Int)) = ((h.length - q.length : Nat) : Int) := by rw [wrap64 (by omega) (by omega)]; omega
      have d5 : h.length - q.length ≤ h.length := by omega
      have hdr : List.drop (h.length - q.length) (h.map iv) = (h.drop (h.length - q.length)).map iv := (List.map_drop ..).symm
      have hlt : h.length - (h.length - q.length) < 17592186044416 := by omega
      have hct : List.take h.length (h.map iv) = h.map iv := List.take_of_length_le (by simp)
      refine G.fg [3, 8, 9, 10, 69, 70, 71] (hk := ?_)
      refine G.rgN 4 tab_ok ok_implIsState (hk := ?_)
      refine G.rdN 8 tab_ok ok_implIsState (hk := ?_)
      refine G.rdN 8 tab_ok ok_implIsState (hk := ?_)
      refine G.rdC tab_ok ok_implIsState (hk := ?_)
      refine G.fg [3, 8, 9, 10, 69, 70, 71, 114] (hk := ?_)
      refine G.iff (h1 := fun h13 => ?_) (h2 := fun h13 => ?_)
      ·try simp only [zqz] at h13
       apply G.seq
       refine G.rg tab_ok ok_implIsState (hk := ?_)
       refine G.fin tab_ok (hr := ?_)
       simp only [oneOrTup]
       congr 1
       exact (stOk_link hjk (by show linkSt _ _ _ = _; rw [hx, hq, hh]; exact link_end d3 h13)).symm
      ·try simp only [zqz] at h13
       apply G.skip
       apply G.seq
       have hE : endB q h = true := by rw [← endB_eq d3, decide_eq_true_eq]; exact h13
       clear h13
       refine G.rg tab_ok ok_implIsState (hk := ?_)
       refine G.fg [3, 69, 70, 71, 137] (hk := ?_)
       refine G.iff (h1 := fun h14 => ?_) (h2 := fun h14 => ?_)
       ·try simp only [zqz] at h14
        apply G.seq
        refine G.rg tab_ok ok_implIsState (hk := ?_)
        refine G.fin tab_ok (hr := ?_)
        simp only [oneOrTup]
        congr 1
        exact (stOk_link hjk (by show linkSt _ _ _ = _; rw [hx, hq, hh]; exact link_noC h14)).symm
       ·try simp only [zqz] at h14
        apply G.skip
        apply G.blk
        refine G.rg tab_ok ok_implIsState (hk := ?_)
        refine G.nm [3, 69, 70, 71] (h := ?_)
        exact G.upto (hJ (j + 1) ⟨by omega, up_step hall (by show linkSt _ _ _ = _; rw [hx, hq, hh]; exact link_yes3 d1 d2 (by omega) hE h14)⟩ (by omega)) (by simp)
    ·try simp only [zqz] at h9
     refine G.exit rfl ?_
     apply G.seq
     refine G.rg tab_ok ok_implIsState (hk := ?_)
     refine G.fin tab_ok (hr := ?_)
     simp only [oneOrTup]
     congr 1
     exact (stOk_yes hbig hact (fun k hk => hall k (by omega))).symm
def r_implIsState (xs0 : List A) (rr : A) : Prop := ∃ (ps : List PG) (ks : List LK) (xs : List AT) (qs : List (List Int)) (hs : List (List Int)) (t : Int), (NW ps) ∧ (KW ks) ∧ (ps.length < 3518437208781) ∧ (ks.length < 2513169434844) ∧ (XW xs) ∧ (xs.length < 4398046511104) ∧ (qs.length < 5864062014805) ∧ (LW qs) ∧ (hs.length < 5864062014805) ∧ (LW hs) ∧ xs0 = [.agg [.row false 3 (ps.map pv), .row false 5 (ks.map kv)], .agg [.row false 2 (xs.map av), .row false 1 (qs.map ivL), .row false 1 (hs.map ivL), .int .i64 t]] ∧ rr = .bool (stOk ps ks xs qs hs t)
noncomputable def q_implIsState : List A → Option A := kgr r_implIsState
theorem k_implIsState : KOk Tryz.prog (54, q_implIsState) := kgr_ok (enters_of Tryz.func54 rfl rfl) (by rintro xs0 rr ⟨ps, ks, xs, qs, hs, t, hc1, hc2, hc3, hc4, hc5, hc6, hc7, hc8, hc9, hc10, rfl, rfl⟩; exact implIsState_ac ps ks xs qs hs t hc1 hc2 hc3 hc4 hc5 hc6 hc7 hc8 hc9 hc10)
theorem e_implIsState : ∀ (ps : List PG) (ks : List LK) (xs : List AT) (qs : List (List Int)) (hs : List (List Int)) (t : Int), (NW ps) → (KW ks) → (ps.length < 3518437208781) → (ks.length < 2513169434844) → (XW xs) → (xs.length < 4398046511104) → (qs.length < 5864062014805) → (LW qs) → (hs.length < 5864062014805) → (LW hs) → q_implIsState [.agg [.row false 3 (ps.map pv), .row false 5 (ks.map kv)], .agg [.row false 2 (xs.map av), .row false 1 (qs.map ivL), .row false 1 (hs.map ivL), .int .i64 t]] = some (.bool (stOk ps ks xs qs hs t)) := by
 intro ps ks xs qs hs t hc1 hc2 hc3 hc4 hc5 hc6 hc7 hc8 hc9 hc10
 refine kgr_eq (fun xs0 rr r2 h h2 => ?_) ⟨ps, ks, xs, qs, hs, t, hc1, hc2, hc3, hc4, hc5, hc6, hc7, hc8, hc9, hc10, rfl, rfl⟩
 obtain ⟨ps1, ks1, xs1, qs1, hs1, t1, _, _, _, _, _, _, _, _, _, _, e1, rfl⟩ := h; obtain ⟨ps2, ks2, xs2, qs2, hs2, t2, _, _, _, _, _, _, _, _, _, _, e2, rfl⟩ := h2
 rw [e1] at e2
 simp only [List.cons.injEq, A.int.injEq, A.agg.injEq, A.row.injEq, pv_inj, kv_inj, av_inj, ivL_inj, true_and, and_true] at e2
 obtain ⟨⟨e1, e2⟩, e3, e4, e5, e6⟩ := e2
 subst e1 e2 e3 e4 e5 e6
 rfl
theorem ok_szActorS : Kn.ok Tryz.prog (kof [(41, q_szActor)]) := kof_cons k_szActor ((kof_nil _))
theorem szActorS_ac (xs : List AT) (n : Int) (hc1 : 0 ≤ n) (hc2 : n ≤ 1048576) (hc3 : xs.length < 4398046511104) (hc4 : XW xs) : AC Tryz.prog 17 [.row false 2 (xs.map av), .int .i64 n] (.int .i64 (szT n xs.length (gtot aL xs))) := by
 have e_szActor := e_szActor
 have hw0 : IntKind.i64.wrap (n - (xs.length : Int)) = n - xs.length := wrap64 (by omega) (by omega)
 refine AC.of tab_ok Tryz.func17 rfl (Nat.le_of_ble_eq_true rfl) fun w0 S0 => ?_
 change G _ _ ⟨[(0, .row false 2 (xs.map av)), (1, .int .i64 n)], [], 27⟩
 apply G.seq
 refine G.rg tab_ok ok_szActorS (hk := ?_)
 apply G.seq
 refine G.rg tab_ok ok_szActorS (hk := ?_)
 apply G.seq
 apply G.seq
 refine G.rg tab_ok ok_szActorS (hk := ?_)
 refine G.iff (h1 := fun h1 => ?_) (h2 := fun h1 => ?_)
 ·try simp only [zqz] at h1
  apply G.seq
  refine G.rg tab_ok ok_szActorS (hk := ?_)
  refine G.fin tab_ok (hr := ?_)
  simp only [oneOrTup]
  congr 1
  unfold szT
  rw [if_pos (by omega)]
 ·try simp only [zqz] at h1
  apply G.skip
  apply G.seq
  apply G.seq
  refine G.rg tab_ok ok_szActorS (hk := ?_)
  apply G.block
  refine G.cn [0, 1, 5] [] (h := ?_)
  refine G.loopX (fun j : Nat => ⟨[(0, .row false 2 (xs.map av)), (1, .int .i64 (n - (xs.length : Int) - (gtot aL (xs.take j) : Int))), (5, .int .i64 j)], [], 27⟩) (fun j => j ≤ xs.length ∧ 0 ≤ n - (xs.length : Int) - (gtot aL (xs.take j) : Int)) (fun j => xs.length - j) (0) (⟨Nat.zero_le _, by simp only [List.take_zero, gtot_nil]; omega⟩) (by simp [gtot_nil]) ?_
  intro j hj J hJ
  obtain ⟨hj, hk⟩ := hj
  have hk2 : n - (xs.length : Int) - (gtot aL (xs.take j) : Int) ≤ 1048576 := by omega
  have hw : IntKind.i64.wrap ((j : Int) + 1) = (j : Int) + 1 := wrap64 (by omega) (by omega)
  apply G.seq
  apply G.seq
  refine G.rg tab_ok ok_szActorS (hk := ?_)
  refine G.iff (h1 := fun h2 => ?_) (h2 := fun h2 => ?_)
  ·try simp only [zqz] at h2
   apply G.skip
   apply G.seq
   apply G.block
   apply G.seq
   have hlr : (xs.getD j default).rs.length < 17592186044416 := hc4 _ (getD_mem0 h2)
   refine G.rg tab_ok ok_szActorS (hk := ?_)
   apply G.seq
   refine G.rg tab_ok ok_szActorS (hk := ?_)
   refine G.fg [0, 1, 5, 25] (hk := ?_)
   refine G.iff (h1 := fun h3 => ?_) (h2 := fun h3 => ?_)
   ·try simp only [zqz] at h3
    apply G.seq
    refine G.rg tab_ok ok_szActorS (hk := ?_)
    refine G.fin tab_ok (hr := ?_)
    simp only [oneOrTup]
    congr 1
    symm
    split at h3
    ·rename_i hh
     exact szT_neg (f := aL) h2 hh
    ·omega
   ·try simp only [zqz] at h3
    apply G.skip
    apply G.blk
    refine G.rg tab_ok ok_szActorS (hk := ?_)
    refine G.cn [0, 1, 5] [] (h := ?_)
    split at h3
    ·omega
    rename_i hh
    rw [if_neg hh]
    obtain ⟨hv, hpos⟩ := szT_step (f := aL) h2 hk hh
    exact G.upto (hJ (j + 1) ⟨by omega, hpos⟩ (by omega)) (by rw [← hv]; simp)
  ·try simp only [zqz] at h2
   refine G.exit rfl ?_
   apply G.seq
   refine G.rg tab_ok ok_szActorS (hk := ?_)
   obtain rfl : j = xs.length := by omega
   rw [List.take_length] at hk ⊢
   refine G.fin tab_ok (hr := ?_)
   simp only [oneOrTup]
   congr 1
   unfold szT
   rw [if_neg (by omega)]
def r_szActorS (xs0 : List A) (rr : A) : Prop := ∃ (xs : List AT) (n : Int), (0 ≤ n) ∧ (n ≤ 1048576) ∧ (xs.length < 4398046511104) ∧ (XW xs) ∧ xs0 = [.row false 2 (xs.map av), .int .i64 n] ∧ rr = .int .i64 (szT n xs.length (gtot aL xs))
noncomputable def q_szActorS : List A → Option A := kgr r_szActorS
theorem k_szActorS : KOk Tryz.prog (17, q_szActorS) := kgr_ok (enters_of Tryz.func17 rfl rfl) (by rintro xs0 rr ⟨xs, n, hc1, hc2, hc3, hc4, rfl, rfl⟩; exact szActorS_ac xs n hc1 hc2 hc3 hc4)
theorem e_szActorS : ∀ (xs : List AT) (n : Int), (0 ≤ n) → (n ≤ 1048576) → (xs.length < 4398046511104) → (XW xs) → q_szActorS [.row false 2 (xs.map av), .int .i64 n] = some (.int .i64 (szT n xs.length (gtot aL xs))) := by
 intro xs n hc1 hc2 hc3 hc4
 refine kgr_eq (fun xs0 rr r2 h h2 => ?_) ⟨xs, n, hc1, hc2, hc3, hc4, rfl, rfl⟩
 obtain ⟨xs1, n1, _, _, _, _, e1, rfl⟩ := h; obtain ⟨xs2, n2, _, _, _, _, e2, rfl⟩ := h2
 rw [e1] at e2
 simp only [List.cons.injEq, A.int.injEq, A.bool.injEq, A.agg.injEq, A.row.injEq, A.fn.injEq, A.rp.injEq, insv_inj, iv_inj, pv_inj, kv_inj, av_inj, true_and, and_true] at e2
 simp [e2]
theorem ok_toActorS : Kn.ok Tryz.prog (kof [(52, q_toActor)]) := kof_cons k_toActor ((kof_nil _))
theorem toActorS_ac (xs : List AT) (hc1 : xs.length < 4398046511104) (hc2 : XW xs) : AC Tryz.prog 24 [.row false 2 (xs.map av)] (.row true 2 (xs.map oav)) := by
 have e_toActor := e_toActor
 have hb1 : (xs.length : Int) ≤ 4611686018427387904 := by omega
 have hb2 : 32 * (xs.length : Int) ≤ 140737488355328 := by omega
 refine AC.of tab_ok Tryz.func24 rfl (Nat.le_of_ble_eq_true rfl) fun w0 S0 => ?_
 change G _ _ ⟨[(0, .row false 2 (xs.map av))], [], 23⟩
 apply G.seq
 refine G.rg tab_ok ok_toActorS (hk := ?_)
 apply G.seq
 refine G.rg tab_ok ok_toActorS (hk := ?_)
 apply G.seq
 apply G.seq
 refine G.rg tab_ok ok_toActorS (hk := ?_)
 apply G.block
 refine G.cn [0, 3, 4] [0] (h := ?_)
 refine G.loopX (fun j : Nat => ⟨[(0, .row false 2 (xs.map av)), (3, .sl 0 0 xs.length), (4, .int .i64 j)], [some (2, fillB oav xs [.int .i64 0, .nils] j)], 23⟩) (fun j => j ≤ xs.length) (fun j => xs.length - j) (0) (Nat.zero_le _) (by simp [fillB]) ?_
 intro j hj J hJ
 have hw : IntKind.i64.wrap ((j : Int) + 1) = (j : Int) + 1 := wrap64 (by omega) (by omega)
 have hlen := fillB_len oav [.int .i64 0, .nils] hj
 apply G.seq
 apply G.seq
 refine G.rg tab_ok ok_toActorS (hk := ?_)
 refine G.iff (h1 := fun h1 => ?_) (h2 := fun h1 => ?_)
 ·try simp only [zqz] at h1
  apply G.skip
  apply G.seq
  apply G.block
  have hg := fillB_get oav [.int .i64 0, .nils] h1
  have hlr : (xs.getD j default).rs.length < 17592186044416 := hc2 _ (getD_mem0 h1)
  refine G.rg tab_ok ok_toActorS (hk := ?_)
  refine G.unfocusFE 0 j 1 1 (f := oav) (l := xs) rfl h1 rfl rfl (by decide) (by simp) (by first | exact pureLL_insv _ | exact pureLL_iv _) rfl ?_
  apply G.blk
  refine G.rg tab_ok ok_toActorS (hk := ?_)
  have hp := fillB_pure oav [.int .i64 0, .nils] (l := xs) (i := j + 1) (fun x => by simp [oav, pureL, pureA, pureLL_insv, pureLL_iv]) rfl
  refine G.cn [0, 3, 4] [0] (h := ?_)
  exact G.upto (hJ (j + 1) (by omega) (by omega)) (by simp)
 ·try simp only [zqz] at h1
  refine G.exit rfl ?_
  apply G.seq
  refine G.rg tab_ok ok_toActorS (hk := ?_)
  obtain rfl : j = xs.length := by omega
  rw [fillB_full]
  refine G.fin tab_ok (hr := ?_)
  rfl
def r_toActorS (xs0 : List A) (rr : A) : Prop := ∃ (xs : List AT), (xs.length < 4398046511104) ∧ (XW xs) ∧ xs0 = [.row false 2 (xs.map av)] ∧ rr = .row true 2 (xs.map oav)
noncomputable def q_toActorS : List A → Option A := kgr r_toActorS
theorem k_toActorS : KOk Tryz.prog (24, q_toActorS) := kgr_ok (enters_of Tryz.func24 rfl rfl) (by rintro xs0 rr ⟨xs, hc1, hc2, rfl, rfl⟩; exact toActorS_ac xs hc1 hc2)
theorem e_toActorS : ∀ (xs : List AT), (xs.length < 4398046511104) → (XW xs) → q_toActorS [.row false 2 (xs.map av)] = some (.row true 2 (xs.map oav)) := by
 intro xs hc1 hc2
 refine kgr_eq (fun xs0 rr r2 h h2 => ?_) ⟨xs, hc1, hc2, rfl, rfl⟩
 obtain ⟨xs1, _, _, e1, rfl⟩ := h; obtain ⟨xs2, _, _, e2, rfl⟩ := h2
 rw [e1] at e2
 simp only [List.cons.injEq, A.int.injEq, A.bool.injEq, A.agg.injEq, A.row.injEq, A.fn.injEq, A.rp.injEq, insv_inj, iv_inj, pv_inj, kv_inj, av_inj, true_and, and_true] at e2
 simp [e2]
theorem ok_eqActorS : Kn.ok Tryz.prog (kof [(60, q_eqActor)]) := kof_cons k_eqActor ((kof_nil _))
theorem eqActorS_ac (xs : List AT) (xs' : List AT) (hc1 : XW xs) (hc2 : XW xs') (hc3 : xs.length < 4398046511104) : AC Tryz.prog 29 [.row false 2 (xs.map av), .row false 2 (xs'.map av)] (.bool (decide (xs = xs'))) := by
 have e_eqActor := e_eqActor
 refine AC.of tab_ok Tryz.func29 rfl (Nat.le_of_ble_eq_true rfl) fun w0 S0 => ?_
 change G _ _ ⟨[(0, .row false 2 (xs.map av)), (1, .row false 2 (xs'.map av))], [], 27⟩
 apply G.seq
 refine G.rg tab_ok ok_eqActorS (hk := ?_)
 apply G.seq
 apply G.seq
 refine G.rg tab_ok ok_eqActorS (hk := ?_)
 refine G.iff (h1 := fun h1 => ?_) (h2 := fun h1 => ?_)
 ·try simp only [zqz] at h1
  apply G.seq
  refine G.rg tab_ok ok_eqActorS (hk := ?_)
  refine G.fin tab_ok (hr := ?_)
  simp only [oneOrTup]
  congr 1
  symm
  rw [decide_eq_false_iff_not]
  intro e
  exact h1 (by rw [e])
 ·try simp only [zqz] at h1
  apply G.skip
  apply G.seq
  apply G.seq
  refine G.rg tab_ok ok_eqActorS (hk := ?_)
  apply G.block
  refine G.cn [0, 1, 5] [] (h := ?_)
  refine G.loopX (fun j : Nat => ⟨[(0, .row false 2 (xs.map av)), (1, .row false 2 (xs'.map av)), (5, .int .i64 j)], [], 27⟩) (fun j => j ≤ xs.length ∧ ∀ k < j, xs.getD k default = xs'.getD k default) (fun j => xs.length - j) (0) (⟨Nat.zero_le _, by omega⟩) (by simp) ?_
  intro j hj J hJ
  obtain ⟨hj, hall⟩ := hj
  have hw : IntKind.i64.wrap ((j : Int) + 1) = (j : Int) + 1 := wrap64 (by omega) (by omega)
  apply G.seq
  apply G.seq
  refine G.rg tab_ok ok_eqActorS (hk := ?_)
  refine G.iff (h1 := fun h2 => ?_) (h2 := fun h2 => ?_)
  ·try simp only [zqz] at h2
   apply G.skip
   apply G.seq
   apply G.block
   apply G.seq
   have h1m : j < xs'.length := by omega
   have h1l : j < xs.length := by omega
   have hlr := hc1 _ (getD_mem0 h1l)
   have hlm := hc2 _ (getD_mem0 h1m)
   refine G.dr mixed tab_ok ok_eqActorS [0, 1, 2, 3, 4, 5, 6, 7, 8, 9] (hk := ?_)
   refine G.fg [0, 1, 5, 26] (hk := ?_)
   refine G.iff (h1 := fun h3 => ?_) (h2 := fun h3 => ?_)
   ·try simp only [zqz] at h3
    apply G.seq
    refine G.rg tab_ok ok_eqActorS (hk := ?_)
    refine G.fin tab_ok (hr := ?_)
    simp only [oneOrTup]
    congr 1
    symm
    rw [decide_eq_false_iff_not]
    intro e
    exact h3 (at_ext.2 (by rw [e]))
   ·try simp only [zqz] at h3
    apply G.skip
    apply G.blk
    refine G.rg tab_ok ok_eqActorS (hk := ?_)
    refine G.cn [0, 1, 5] [] (h := ?_)
    exact G.upto (hJ (j + 1) ⟨by omega, geq_upto hall (at_ext.1 h3)⟩ (by omega)) (by simp)
  ·try simp only [zqz] at h2
   refine G.exit rfl ?_
   apply G.seq
   refine G.rg tab_ok ok_eqActorS (hk := ?_)
   refine G.fin tab_ok (hr := ?_)
   simp only [oneOrTup]
   congr 1
   symm
   rw [decide_eq_true_eq]
   exact geq_all (by omega) (fun k hk => hall k (by omega))
def r_eqActorS (xs0 : List A) (rr : A) : Prop := ∃ (xs : List AT) (xs' : List AT), (XW xs) ∧ (XW xs') ∧ (xs.length < 4398046511104) ∧ xs0 = [.row false 2 (xs.map av), .row false 2 (xs'.map av)] ∧ rr = .bool (decide (xs = xs'))
noncomputable def q_eqActorS : List A → Option A := kgr r_eqActorS
theorem k_eqActorS : KOk Tryz.prog (29, q_eqActorS) := kgr_ok (enters_of Tryz.func29 rfl rfl) (by rintro xs0 rr ⟨xs, xs', hc1, hc2, hc3, rfl, rfl⟩; exact eqActorS_ac xs xs' hc1 hc2 hc3)
theorem e_eqActorS : ∀ (xs : List AT) (xs' : List AT), (XW xs) → (XW xs') → (xs.length < 4398046511104) → q_eqActorS [.row false 2 (xs.map av), .row false 2 (xs'.map av)] = some (.bool (decide (xs = xs'))) := by
 intro xs xs' hc1 hc2 hc3
 refine kgr_eq (fun xs0 rr r2 h h2 => ?_) ⟨xs, xs', hc1, hc2, hc3, rfl, rfl⟩
 obtain ⟨xs1, xs'1, _, _, _, e1, rfl⟩ := h; obtain ⟨xs2, xs'2, _, _, _, e2, rfl⟩ := h2
 rw [e1] at e2
 simp only [List.cons.injEq, A.int.injEq, A.bool.injEq, A.agg.injEq, A.row.injEq, A.fn.injEq, A.rp.injEq, insv_inj, iv_inj, pv_inj, kv_inj, av_inj, true_and, and_true] at e2
 simp [e2]
theorem ok_szState : Kn.ok Tryz.prog (kof [(17, q_szActorS), (18, q_szIntSS)]) := kof_cons k_szActorS (kof_cons k_szIntSS ((kof_nil _)))
theorem szState_ac (xs : List AT) (qs : List (List Int)) (hs : List (List Int)) (t : Int) (n : Int) (hc1 : 0 ≤ n) (hc2 : n ≤ 1048576) (hc3 : XW xs) (hc4 : xs.length < 4398046511104) (hc5 : qs.length < 5864062014805) (hc6 : LW qs) (hc7 : hs.length < 5864062014805) (hc8 : LW hs) : AC Tryz.prog 5 [.agg [.row false 2 (xs.map av), .row false 1 (qs.map ivL), .row false 1 (hs.map ivL), .int .i64 t], .int .i64 n] (.int .i64 (szSt n xs qs hs)) := by
 have e_szActorS := e_szActorS
 have e_szIntSS := e_szIntSS
 have hivl := ivL_eq
 have hle := szT_le (n := n) (a := xs.length) (b := gtot aL xs) hc2
 have hle2 := szSS_le qs hle
 refine AC.of tab_ok Tryz.func5 rfl (Nat.le_of_ble_eq_true rfl) fun w0 S0 => ?_
 change G _ _ ⟨[(0, .agg [.row false 2 (xs.map av), .row false 1 (qs.map ivL), .row false 1 (hs.map ivL), .int .i64 t]), (1, .int .i64 n)], [], 24⟩
 apply G.seq
 refine G.rg tab_ok ok_szState (hk := ?_)
 apply G.seq
 refine G.rg tab_ok ok_szState (hk := ?_)
 apply G.seq
 apply G.seq
 refine G.rg tab_ok ok_szState (hk := ?_)
 refine G.fg [1, 2, 10] (hk := ?_)
 refine G.iff (h1 := fun h1 => ?_) (h2 := fun h1 => ?_)
 ·try simp only [zqz] at h1
  apply G.seq
  refine G.rg tab_ok ok_szState (hk := ?_)
  refine G.fin tab_ok (hr := ?_)
  simp only [oneOrTup]
  congr 1
  unfold szSt
  rw [if_pos h1]
 ·try simp only [zqz] at h1
  apply G.skip
  apply G.seq
  refine G.rg tab_ok ok_szState (hk := ?_)
  apply G.seq
  apply G.seq
  refine G.rg tab_ok ok_szState (hk := ?_)
  refine G.iff (h1 := fun h2 => ?_) (h2 := fun h2 => ?_)
  ·try simp only [zqz] at h2
   apply G.seq
   refine G.rg tab_ok ok_szState (hk := ?_)
   refine G.fin tab_ok (hr := ?_)
   simp only [oneOrTup]
   congr 1
   unfold szSt
   rw [if_neg (by omega), if_pos h2]
  ·try simp only [zqz] at h2
   apply G.skip
   apply G.seq
   refine G.rg tab_ok ok_szState (hk := ?_)
   apply G.seq
   apply G.seq
   refine G.rg tab_ok ok_szState (hk := ?_)
   refine G.fg [1, 22] (hk := ?_)
   refine G.iff (h1 := fun h3 => ?_) (h2 := fun h3 => ?_)
   ·try simp only [zqz] at h3
    apply G.seq
    refine G.rg tab_ok ok_szState (hk := ?_)
    refine G.fin tab_ok (hr := ?_)
    simp only [oneOrTup]
    congr 1
    unfold szSt
    rw [if_neg (by omega), if_neg (by omega), szSS_lt h3]
   ·try simp only [zqz] at h3
    apply G.skip
    apply G.seq
    refine G.rg tab_ok ok_szState (hk := ?_)
    refine G.fin tab_ok (hr := ?_)
    simp only [oneOrTup]
    congr 1
    unfold szSt
    rw [if_neg (by omega), if_neg (by omega)]
def r_szState (xs0 : List A) (rr : A) : Prop := ∃ (xs : List AT) (qs : List (List Int)) (hs : List (List Int)) (t : Int) (n : Int), (0 ≤ n) ∧ (n ≤ 1048576) ∧ (XW xs) ∧ (xs.length < 4398046511104) ∧ (qs.length < 5864062014805) ∧ (LW qs) ∧ (hs.length < 5864062014805) ∧ (LW hs) ∧ xs0 = [.agg [.row false 2 (xs.map av), .row false 1 (qs.map ivL), .row false 1 (hs.map ivL), .int .i64 t], .int .i64 n] ∧ rr = .int .i64 (szSt n xs qs hs)
noncomputable def q_szState : List A → Option A := kgr r_szState
theorem k_szState : KOk Tryz.prog (5, q_szState) := kgr_ok (enters_of Tryz.func5 rfl rfl) (by rintro xs0 rr ⟨xs, qs, hs, t, n, hc1, hc2, hc3, hc4, hc5, hc6, hc7, hc8, rfl, rfl⟩; exact szState_ac xs qs hs t n hc1 hc2 hc3 hc4 hc5 hc6 hc7 hc8)
theorem e_szState : ∀ (xs : List AT) (qs : List (List Int)) (hs : List (List Int)) (t : Int) (n : Int), (0 ≤ n) → (n ≤ 1048576) → (XW xs) → (xs.length < 4398046511104) → (qs.length < 5864062014805) → (LW qs) → (hs.length < 5864062014805) → (LW hs) → q_szState [.agg [.row false 2 (xs.map av), .row false 1 (qs.map ivL), .row false 1 (hs.map ivL), .int .i64 t], .int .i64 n] = some (.int .i64 (szSt n xs qs hs)) := by
 intro xs qs hs t n hc1 hc2 hc3 hc4 hc5 hc6 hc7 hc8
 refine kgr_eq (fun xs0 rr r2 h h2 => ?_) ⟨xs, qs, hs, t, n, hc1, hc2, hc3, hc4, hc5, hc6, hc7, hc8, rfl, rfl⟩
 obtain ⟨xs1, qs1, hs1, t1, n1, _, _, _, _, _, _, _, _, e1, rfl⟩ := h; obtain ⟨xs2, qs2, hs2, t2, n2, _, _, _, _, _, _, _, _, e2, rfl⟩ := h2
 rw [e1] at e2
 simp only [List.cons.injEq, A.int.injEq, A.agg.injEq, A.row.injEq, av_inj, ivL_inj, true_and, and_true] at e2
 obtain ⟨⟨e3, e4, e5, e6⟩, e7⟩ := e2
 subst e3 e4 e5 e6 e7
 rfl
theorem ok_toState : Kn.ok Tryz.prog (kof [(24, q_toActorS), (25, q_toIntSS)]) := kof_cons k_toActorS (kof_cons k_toIntSS ((kof_nil _)))
theorem toState_ac (xs : List AT) (qs : List (List Int)) (hs : List (List Int)) (t : Int) (hc1 : XW xs) (hc2 : xs.length < 4398046511104) (hc3 : qs.length < 5864062014805) (hc4 : LW qs) (hc5 : hs.length < 5864062014805) (hc6 : LW hs) : AC Tryz.prog 8 [.agg [.row false 2 (xs.map av), .row false 1 (qs.map ivL), .row false 1 (hs.map ivL), .int .i64 t]] (.agg [.row true 2 (xs.map oav), .row true 1 (qs.map ovL), .row true 1 (hs.map ovL), .int .i64 t]) := by
 have e_toActorS := e_toActorS
 have e_toIntSS := e_toIntSS
 have hivl := ivL_eq
 have hro := roLL_ovL
 have hpov := pureLL_ovL
 have hnov := noLoanLL_ovL
 refine AC.of tab_ok Tryz.func8 rfl (Nat.le_of_ble_eq_true rfl) fun w0 S0 => ?_
 change G _ _ ⟨[(0, .agg [.row false 2 (xs.map av), .row false 1 (qs.map ivL), .row false 1 (hs.map ivL), .int .i64 t])], [], 20⟩
 apply G.seq
 refine G.rg tab_ok ok_toState (hk := ?_)
 apply G.seq
 refine G.rg tab_ok ok_toState (hk := ?_)
 apply G.seq
 refine G.rg tab_ok ok_toState (hk := ?_)
 apply G.seq
 refine G.rg tab_ok ok_toState (hk := ?_)
 apply G.seq
 refine G.rg tab_ok ok_toState (hk := ?_)
 apply G.seq
 refine G.rg tab_ok ok_toState (hk := ?_)
 apply G.seq
 refine G.rg tab_ok ok_toState (hk := ?_)
 refine G.fin tab_ok (hr := ?_)
 rfl
def r_toState (xs0 : List A) (rr : A) : Prop := ∃ (xs : List AT) (qs : List (List Int)) (hs : List (List Int)) (t : Int), (XW xs) ∧ (xs.length < 4398046511104) ∧ (qs.length < 5864062014805) ∧ (LW qs) ∧ (hs.length < 5864062014805) ∧ (LW hs) ∧ xs0 = [.agg [.row false 2 (xs.map av), .row false 1 (qs.map ivL), .row false 1 (hs.map ivL), .int .i64 t]] ∧ rr = .agg [.row true 2 (xs.map oav), .row true 1 (qs.map ovL), .row true 1 (hs.map ovL), .int .i64 t]
noncomputable def q_toState : List A → Option A := kgr r_toState
theorem k_toState : KOk Tryz.prog (8, q_toState) := kgr_ok (enters_of Tryz.func8 rfl rfl) (by rintro xs0 rr ⟨xs, qs, hs, t, hc1, hc2, hc3, hc4, hc5, hc6, rfl, rfl⟩; exact toState_ac xs qs hs t hc1 hc2 hc3 hc4 hc5 hc6)
theorem e_toState : ∀ (xs : List AT) (qs : List (List Int)) (hs : List (List Int)) (t : Int), (XW xs) → (xs.length < 4398046511104) → (qs.length < 5864062014805) → (LW qs) → (hs.length < 5864062014805) → (LW hs) → q_toState [.agg [.row false 2 (xs.map av), .row false 1 (qs.map ivL), .row false 1 (hs.map ivL), .int .i64 t]] = some (.agg [.row true 2 (xs.map oav), .row true 1 (qs.map ovL), .row true 1 (hs.map ovL), .int .i64 t]) := by
 intro xs qs hs t hc1 hc2 hc3 hc4 hc5 hc6
 refine kgr_eq (fun xs0 rr r2 h h2 => ?_) ⟨xs, qs, hs, t, hc1, hc2, hc3, hc4, hc5, hc6, rfl, rfl⟩
 obtain ⟨xs1, qs1, hs1, t1, _, _, _, _, _, _, e1, rfl⟩ := h; obtain ⟨xs2, qs2, hs2, t2, _, _, _, _, _, _, e2, rfl⟩ := h2
 rw [e1] at e2
 simp only [List.cons.injEq, A.int.injEq, A.agg.injEq, A.row.injEq, av_inj, ivL_inj, true_and, and_true] at e2
 obtain ⟨e3, e4, e5, e6⟩ := e2
 subst e3 e4 e5 e6
 rfl
theorem ok_eqState : Kn.ok Tryz.prog (kof [(29, q_eqActorS), (30, q_eqIntSS)]) := kof_cons k_eqActorS (kof_cons k_eqIntSS ((kof_nil _)))
theorem eqState_ac (xs : List AT) (qs : List (List Int)) (hs : List (List Int)) (t : Int) (xs' : List AT) (qs' : List (List Int)) (hs' : List (List Int)) (t' : Int) (hc1 : XW xs) (hc2 : xs.length < 4398046511104) (hc3 : qs.length < 5864062014805) (hc4 : LW qs) (hc5 : hs.length < 5864062014805) (hc6 : LW hs) (hc7 : XW xs') (hc8 : LW qs') (hc9 : LW hs') : AC Tryz.prog 10 [.agg [.row false 2 (xs.map av), .row false 1 (qs.map ivL), .row false 1 (hs.map ivL), .int .i64 t], .agg [.row false 2 (xs'.map av), .row false 1 (qs'.map ivL), .row false 1 (hs'.map ivL), .int .i64 t']] (.bool (decide (xs = xs') && decide (qs = qs') && decide (hs = hs') && decide (t = t'))) := by
 have e_eqActorS := e_eqActorS
 have e_eqIntSS := e_eqIntSS
 have hivl := ivL_eq
 refine AC.of tab_ok Tryz.func10 rfl (Nat.le_of_ble_eq_true rfl) fun w0 S0 => ?_
 change G _ _ ⟨[(0, .agg [.row false 2 (xs.map av), .row false 1 (qs.map ivL), .row false 1 (hs.map ivL), .int .i64 t]), (1, .agg [.row false 2 (xs'.map av), .row false 1 (qs'.map ivL), .row false 1 (hs'.map ivL), .int .i64 t'])], [], 28⟩
 apply G.seq
 refine G.rg tab_ok ok_eqState (hk := ?_)
 apply G.seq
 apply G.seq
 refine G.rg tab_ok ok_eqState (hk := ?_)
 refine G.fg [2, 3, 10] (hk := ?_)
 refine G.iff (h1 := fun h1 => ?_) (h2 := fun h1 => ?_)
 ·try simp only [zqz] at h1
  apply G.seq
  refine G.rg tab_ok ok_eqState (hk := ?_)
  refine G.fin tab_ok (hr := ?_)
  simp [oneOrTup, *]
 ·try simp only [zqz] at h1
  apply G.skip
  apply G.seq
  apply G.seq
  refine G.rg tab_ok ok_eqState (hk := ?_)
  refine G.iff (h1 := fun h2 => ?_) (h2 := fun h2 => ?_)
  ·try simp only [zqz] at h2
   apply G.seq
   refine G.rg tab_ok ok_eqState (hk := ?_)
   refine G.fin tab_ok (hr := ?_)
   simp [oneOrTup, *]
  ·try simp only [zqz] at h2
   apply G.skip
   apply G.seq
   apply G.seq
   refine G.rg tab_ok ok_eqState (hk := ?_)
   refine G.fg [2, 3, 22] (hk := ?_)
   refine G.iff (h1 := fun h3 => ?_) (h2 := fun h3 => ?_)
   ·try simp only [zqz] at h3
    apply G.seq
    refine G.rg tab_ok ok_eqState (hk := ?_)
    refine G.fin tab_ok (hr := ?_)
    simp [oneOrTup, *]
   ·try simp only [zqz] at h3
    apply G.skip
    apply G.seq
    apply G.seq
    refine G.rg tab_ok ok_eqState (hk := ?_)
    refine G.iff (h1 := fun h4 => ?_) (h2 := fun h4 => ?_)
    ·try simp only [zqz] at h4
     apply G.seq
     refine G.rg tab_ok ok_eqState (hk := ?_)
     refine G.fin tab_ok (hr := ?_)
     simp [oneOrTup, *]
    ·try simp only [zqz] at h4
     apply G.skip
     apply G.seq
     refine G.rg tab_ok ok_eqState (hk := ?_)
     refine G.fin tab_ok (hr := ?_)
     simp [oneOrTup, *]
def r_eqState (xs0 : List A) (rr : A) : Prop := ∃ (xs : List AT) (qs : List (List Int)) (hs : List (List Int)) (t : Int) (xs' : List AT) (qs' : List (List Int)) (hs' : List (List Int)) (t' : Int), (XW xs) ∧ (xs.length < 4398046511104) ∧ (qs.length < 5864062014805) ∧ (LW qs) ∧ (hs.length < 5864062014805) ∧ (LW hs) ∧ (XW xs') ∧ (LW qs') ∧ (LW hs') ∧ xs0 = [.agg [.row false 2 (xs.map av), .row false 1 (qs.map ivL), .row false 1 (hs.map ivL), .int .i64 t], .agg [.row false 2 (xs'.map av), .row false 1 (qs'.map ivL), .row false 1 (hs'.map ivL), .int .i64 t']] ∧ rr = .bool (decide (xs = xs') && decide (qs = qs') && decide (hs = hs') && decide (t = t'))
noncomputable def q_eqState : List A → Option A := kgr r_eqState
theorem k_eqState : KOk Tryz.prog (10, q_eqState) := kgr_ok (enters_of Tryz.func10 rfl rfl) (by rintro xs0 rr ⟨xs, qs, hs, t, xs', qs', hs', t', hc1, hc2, hc3, hc4, hc5, hc6, hc7, hc8, hc9, rfl, rfl⟩; exact eqState_ac xs qs hs t xs' qs' hs' t' hc1 hc2 hc3 hc4 hc5 hc6 hc7 hc8 hc9)
theorem e_eqState : ∀ (xs : List AT) (qs : List (List Int)) (hs : List (List Int)) (t : Int) (xs' : List AT) (qs' : List (List Int)) (hs' : List (List Int)) (t' : Int), (XW xs) → (xs.length < 4398046511104) → (qs.length < 5864062014805) → (LW qs) → (hs.length < 5864062014805) → (LW hs) → (XW xs') → (LW qs') → (LW hs') → q_eqState [.agg [.row false 2 (xs.map av), .row false 1 (qs.map ivL), .row false 1 (hs.map ivL), .int .i64 t], .agg [.row false 2 (xs'.map av), .row false 1 (qs'.map ivL), .row false 1 (hs'.map ivL), .int .i64 t']] = some (.bool (decide (xs = xs') && decide (qs = qs') && decide (hs = hs') && decide (t = t'))) := by
 intro xs qs hs t xs' qs' hs' t' hc1 hc2 hc3 hc4 hc5 hc6 hc7 hc8 hc9
 refine kgr_eq (fun xs0 rr r2 h h2 => ?_) ⟨xs, qs, hs, t, xs', qs', hs', t', hc1, hc2, hc3, hc4, hc5, hc6, hc7, hc8, hc9, rfl, rfl⟩
 obtain ⟨xs1, qs1, hs1, t1, xs'1, qs'1, hs'1, t'1, _, _, _, _, _, _, _, _, _, e1, rfl⟩ := h; obtain ⟨xs2, qs2, hs2, t2, xs'2, qs'2, hs'2, t'2, _, _, _, _, _, _, _, _, _, e2, rfl⟩ := h2
 rw [e1] at e2
 simp only [List.cons.injEq, A.int.injEq, A.agg.injEq, A.row.injEq, av_inj, ivL_inj, true_and, and_true] at e2
 obtain ⟨⟨e3, e4, e5, e6⟩, e7, e8, e9, ea⟩ := e2
 subst e3 e4 e5 e6 e7 e8 e9 ea
 rfl
theorem markActorS_mc (h : Heap) (xs : List AT) (n : Int) (hc1 : h = [some (2, xs.map oav)]) (hc2 : 0 ≤ n) (hc3 : n + (tA xs : Int) ≤ 1048576000) (hc4 : xs.length < 1099511627776) : MC Tryz.prog 35 h [.sl 0 0 xs.length, .int .i64 n] (.int .i64 (n + (tA xs : Int))) ([some (2, (mkG wAt mAt n xs).map oav)]) := by
 subst hc1
 unfold tA at hc3 ⊢
 refine MC.of tab_ok Tryz.func35 rfl (Nat.le_of_ble_eq_true rfl) fun w0 S0 fs0 φ0 hφ0 hq0 => ?_
 change G _ _ ⟨[(0, .sl 0 0 xs.length), (1, .int .i64 n)], _, 27⟩
 apply G.seq
 refine G.rg tab_ok (kof_nil _) (hk := ?_)
 apply G.seq
 apply G.seq
 refine G.rg tab_ok (kof_nil _) (hk := ?_)
 apply G.block
 refine G.fg [0, 1, 5] (hk := ?_)
 refine G.loopX (fun j : Nat => ⟨[(0, .sl 0 0 xs.length), (1, .int .i64 (n + (gtot wAt (xs.take j) : Int))), (5, .int .i64 j)], [some (2, (upG wAt mAt n xs j).map oav)], 27⟩) (fun j => j ≤ xs.length) (fun j => xs.length - j) (0) (Nat.zero_le _) (by simp [gtot_nil, upG_zero]) ?_
 intro j hj J hJ
 have hw : IntKind.i64.wrap ((j : Int) + 1) = (j : Int) + 1 := wrap64 (by omega) (by omega)
 apply G.seq
 apply G.seq
 refine G.rg tab_ok (kof_nil _) (hk := ?_)
 refine G.iff (h1 := fun h1 => ?_) (h2 := fun h1 => ?_)
 ·try simp only [zqz] at h1
  apply G.skip
  apply G.seq
  apply G.block
  apply G.seq
  have hlt : j < (upG wAt mAt n xs j).length := by rw [upG_len n hj]; exact h1
  have hgd := upG_get (w := wAt) (m := mAt) n h1
  have htg := gtot_get (f := wAt) h1
  have hwd : wAt (xs.getD j default) = 1 + (xs.getD j default).rs.length := rfl
  have hw1 : IntKind.i64.wrap (n + (gtot wAt (xs.take j) : Int) + 1) = n + (gtot wAt (xs.take j) : Int) + 1 := wrap64 (by omega) (by omega)
  have hgu : ((upG wAt mAt n xs j).map oav)[j]? = some [.int .i64 (xs.getD j default).pc, .row true 1 ((xs.getD j default).rs.map iv)] := by
   rw [List.getElem?_map, List.getElem?_eq_getElem hlt]
   have e : (upG wAt mAt n xs j)[j] = (xs.getD j default) := by rw [← hgd]; simp [List.getD_eq_getElem?_getD, List.getElem?_eq_getElem hlt]
   rw [e]
   rfl
  have hr1 : ∀ e : List A, (((upG wAt mAt n xs j).map oav).set j e)[j]? = some e := row_self hgu
  have hr2 : ∀ e e2 : List A, (((upG wAt mAt n xs j).map oav).set j e).set j e2 = ((upG wAt mAt n xs j).map oav).set j e2 := fun _ _ => List.set_set ..
  have hrdc : ∀ (e : List A) (a b : Nat), rdCells (((upG wAt mAt n xs j).map oav).set j e) j a b = if ((e.drop a).take b).length = b ∧ b ≠ 0 then some ((e.drop a).take b) else none := fun e a b => by simp only [rdCells, hr1]
  refine G.rg tab_ok (kof_nil _) (hk := ?_)
  apply G.seq
  refine G.rg tab_ok (kof_nil _) (hk := ?_)
  refine G.focus 0 j 1 (e := [.int .i64 (n + (gtot wAt (xs.take j) : Int)), .row true 1 ((xs.getD j default).rs.map iv)]) (sz' := 1) (es' := (xs.getD j default).rs.map iv) rfl (hr1 _) rfl ?_
  simp only [withH]
  refine G.rgN 6 tab_ok (kof_nil _) (hk := ?_)
  refine G.cf [1] en_markIntS (markIntS_mc [some (1, (xs.getD j default).rs.map iv)] 0 _ (n + (gtot wAt (xs.take j) : Int) + 1) rfl (by omega) (by omega) (by omega)) (h := ?_)
  refine G.rgC tab_ok (kof_nil _) (hk := ?_)
  refine G.unfocusE 0 j 1 1 (f := oav) (l := (upG wAt mAt n xs j)) (mAt (n + (gtot wAt (xs.take j) : Int)) (xs.getD j default)) rfl hlt rfl rfl (by decide) (by first | rw [mkP_len] | rw [mkI_len] | simp [mkP_len, mkI_len]) (by first | exact pureLL_insv _ | exact pureLL_iv _) rfl ?_
  rw [upG_set n h1]
  refine G.pop [0, 1, 5] (h' := [some (2, (upG wAt mAt n xs (j + 1)).map oav)]) (junk := [none]) rfl ?_ (by rw [hφ0]; exact Nat.le_refl _) ?_
  ·show (refLL _ _ && true) = true
   rw [pureLL_ref (pureLL_oav _)]
   rfl
  apply G.blk
  refine G.rg tab_ok (kof_nil _) (hk := ?_)
  refine G.fg [0, 1, 5] (hk := ?_)
  have hts := gtot_succ (f := wAt) h1
  rw [hwd] at hts
  exact G.upto (hJ (j + 1) (by omega) (by omega)) (by simp [clip, refA, hts]; omega)
 ·try simp only [zqz] at h1
  refine G.exit rfl ?_
  apply G.seq
  refine G.rg tab_ok (kof_nil _) (hk := ?_)
  obtain rfl : j = xs.length := by omega
  rw [upG_full, List.take_length]
  refine G.finM (junk := []) tab_ok (hr := ?_) (hh := ?_) (hq := ?_) (hl := ?_)
  ·rfl
  ·simp
  ·show (refLL _ _ && true) = true
   rw [pureLL_ref (pureLL_oav _)]
   rfl
  ·rw [hφ0]; exact Nat.le_refl _
theorem ok_heldActorS : Kn.ok Tryz.prog (kof [(66, q_heldIntS)]) := kof_cons k_heldIntS ((kof_nil _))
theorem heldActorS_ac (xs : List AT) (n : Int) (hc1 : 0 ≤ n) (hc2 : n + (tA xs : Int) ≤ 1048576000) (hc3 : xs.length < 1099511627776) : AC Tryz.prog 37 [.row false 2 (xs.map av), .int .i64 n] (.int .i64 (heldAS n xs)) := by
 have e_heldIntS := e_heldIntS
 unfold tA at hc2
 refine AC.of tab_ok Tryz.func37 rfl (Nat.le_of_ble_eq_true rfl) fun w0 S0 => ?_
 change G _ _ ⟨[(0, .row false 2 (xs.map av)), (1, .int .i64 n)], [], 31⟩
 apply G.seq
 refine G.rg tab_ok ok_heldActorS (hk := ?_)
 apply G.seq
 apply G.seq
 refine G.rg tab_ok ok_heldActorS (hk := ?_)
 apply G.block
 refine G.cn [0, 1, 5] [] (h := ?_)
 refine G.loopX (fun j : Nat => ⟨[(0, .row false 2 (xs.map av)), (1, .int .i64 (n + (gtot wAt (xs.take j) : Int))), (5, .int .i64 j)], [], 31⟩) (fun j => j ≤ xs.length ∧ ∀ k < j, xs.getD k default = mAt (n + (gtot wAt (xs.take k) : Int)) (xs.getD k default)) (fun j => xs.length - j) (0) (⟨Nat.zero_le _, by omega⟩) (by simp [gtot_nil]) ?_
 intro j hj J hJ
 obtain ⟨hj, hall⟩ := hj
 have hw : IntKind.i64.wrap ((j : Int) + 1) = (j : Int) + 1 := wrap64 (by omega) (by omega)
 apply G.seq
 apply G.seq
 refine G.rg tab_ok ok_heldActorS (hk := ?_)
 refine G.iff (h1 := fun h1 => ?_) (h2 := fun h1 => ?_)
 ·try simp only [zqz] at h1
  apply G.skip
  apply G.seq
  apply G.block
  apply G.seq
  apply G.seq
  have htg := gtot_get (f := wAt) h1
  have hwd : wAt (xs.getD j default) = 1 + (xs.getD j default).rs.length := rfl
  have hw1 : IntKind.i64.wrap (n + (gtot wAt (xs.take j) : Int) + 1) = n + (gtot wAt (xs.take j) : Int) + 1 := wrap64 (by omega) (by omega)
  have hq1 : 0 ≤ n + (gtot wAt (xs.take j) : Int) + 1 := by omega
  have hq2 : n + (gtot wAt (xs.take j) : Int) + 1 ≤ 1099511627776 := by omega
  have hq3 : (xs.getD j default).rs.length < 1099511627776 := by omega
  refine G.rg tab_ok ok_heldActorS (hk := ?_)
  refine G.fg [0, 1, 5, 18] (hk := ?_)
  refine G.iff (h1 := fun h2 => ?_) (h2 := fun h2 => ?_)
  ·try simp only [zqz] at h2
   apply G.seq
   refine G.rg tab_ok ok_heldActorS (hk := ?_)
   refine G.fin tab_ok (hr := ?_)
   simp only [oneOrTup]
   congr 1
   exact (heldG_no (w := wAt) (m := mAt) (by omega) (fun e => h2 (by rw [e]; rfl))).symm
  ·try simp only [zqz] at h2
   apply G.skip
   apply G.seq
   refine G.rg tab_ok ok_heldActorS (hk := ?_)
   apply G.seq
   refine G.rg tab_ok ok_heldActorS (hk := ?_)
   apply G.seq
   refine G.rg tab_ok ok_heldActorS (hk := ?_)
   refine G.fg [0, 1, 5, 29] (hk := ?_)
   refine G.iff (h1 := fun h3 => ?_) (h2 := fun h3 => ?_)
   ·try simp only [zqz] at h3
    apply G.seq
    refine G.rg tab_ok ok_heldActorS (hk := ?_)
    refine G.fin tab_ok (hr := ?_)
    simp only [oneOrTup]
    congr 1
    exact (heldG_no (w := wAt) (m := mAt) (by omega) (mAt_bad (by omega) h3)).symm
   ·try simp only [zqz] at h3
    apply G.skip
    apply G.blk
    refine G.rg tab_ok ok_heldActorS (hk := ?_)
    refine G.cn [0, 1, 5] [] (h := ?_)
    have hts := gtot_succ (f := wAt) h1
    rw [hwd] at hts
    have hyes := heldI_pos (Int.not_lt.2 h3)
    have hv : heldI (n + (gtot wAt (xs.take j) : Int) + 1) (xs.getD j default).rs = n + (gtot wAt (xs.take (j + 1)) : Int) := by rw [hyes.2]; omega
    rw [hv]
    exact G.upto (hJ (j + 1) ⟨by omega, held_up hall (mAt_mk h2 hyes.1)⟩ (by omega)) (by simp)
 ·try simp only [zqz] at h1
  refine G.exit rfl ?_
  apply G.seq
  refine G.rg tab_ok ok_heldActorS (hk := ?_)
  obtain rfl : j = xs.length := by omega
  refine G.fin tab_ok (hr := ?_)
  simp only [oneOrTup]
  congr 1
  rw [List.take_length]
  unfold heldAS
  exact (heldG_yes hall).symm
def r_heldActorS (xs0 : List A) (rr : A) : Prop := ∃ (xs : List AT) (n : Int), (0 ≤ n) ∧ (n + (tA xs : Int) ≤ 1048576000) ∧ (xs.length < 1099511627776) ∧ xs0 = [.row false 2 (xs.map av), .int .i64 n] ∧ rr = .int .i64 (heldAS n xs)
noncomputable def q_heldActorS : List A → Option A := kgr r_heldActorS
theorem k_heldActorS : KOk Tryz.prog (37, q_heldActorS) := kgr_ok (enters_of Tryz.func37 rfl rfl) (by rintro xs0 rr ⟨xs, n, hc1, hc2, hc3, rfl, rfl⟩; exact heldActorS_ac xs n hc1 hc2 hc3)
theorem e_heldActorS : ∀ (xs : List AT) (n : Int), (0 ≤ n) → (n + (tA xs : Int) ≤ 1048576000) → (xs.length < 1099511627776) → q_heldActorS [.row false 2 (xs.map av), .int .i64 n] = some (.int .i64 (heldAS n xs)) := by
 intro xs n hc1 hc2 hc3
 refine kgr_eq (fun xs0 rr r2 h h2 => ?_) ⟨xs, n, hc1, hc2, hc3, rfl, rfl⟩
 obtain ⟨xs1, n1, _, _, _, e1, rfl⟩ := h; obtain ⟨xs2, n2, _, _, _, e2, rfl⟩ := h2
 rw [e1] at e2
 simp only [List.cons.injEq, A.int.injEq, A.bool.injEq, A.agg.injEq, A.row.injEq, A.fn.injEq, A.rp.injEq, insv_inj, iv_inj, pv_inj, kv_inj, av_inj, true_and, and_true] at e2
 simp [e2]
theorem ok_heldState : Kn.ok Tryz.prog (kof [(37, q_heldActorS), (38, q_heldIntSS)]) := kof_cons k_heldActorS (kof_cons k_heldIntSS ((kof_nil _)))
theorem heldState_ac (xs : List AT) (qs : List (List Int)) (hs : List (List Int)) (t : Int) (n : Int) (hc1 : 0 ≤ n) (hc2 : n + (tA xs : Int) + (tot qs : Int) + (tot hs : Int) ≤ 1048576000) (hc3 : xs.length < 1099511627776) (hc4 : qs.length < 1099511627776) (hc5 : hs.length < 1099511627776) (hc6 : LW qs) (hc7 : LW hs) : AC Tryz.prog 14 [.agg [.row false 2 (xs.map av), .row false 1 (qs.map ivL), .row false 1 (hs.map ivL), .int .i64 t], .int .i64 n] (.int .i64 (heldSt n xs qs hs)) := by
 have e_heldActorS := e_heldActorS
 have e_heldIntSS := e_heldIntSS
 have hivl := ivL_eq
 have hs1 : n + (tA xs : Int) ≤ 1048576000 := by omega
 refine AC.of tab_ok Tryz.func14 rfl (Nat.le_of_ble_eq_true rfl) fun w0 S0 => ?_
 change G _ _ ⟨[(0, .agg [.row false 2 (xs.map av), .row false 1 (qs.map ivL), .row false 1 (hs.map ivL), .int .i64 t]), (1, .int .i64 n)], [], 24⟩
 apply G.seq
 refine G.rg tab_ok ok_heldState (hk := ?_)
 apply G.seq
 refine G.rg tab_ok ok_heldState (hk := ?_)
 apply G.seq
 apply G.seq
 refine G.rg tab_ok ok_heldState (hk := ?_)
 refine G.fg [1, 2, 10] (hk := ?_)
 refine G.iff (h1 := fun h1 => ?_) (h2 := fun h1 => ?_)
 ·try simp only [zqz] at h1
  apply G.seq
  refine G.rg tab_ok ok_heldState (hk := ?_)
  refine G.fin tab_ok (hr := ?_)
  simp only [oneOrTup]
  congr 1
  unfold heldSt
  rw [if_pos h1]
 ·try simp only [zqz] at h1
  apply G.skip
  apply G.seq
  have hle := heldAS_le n xs
  have hs3 : 0 ≤ heldAS n xs := by omega
  have hs2 : heldAS n xs + (tot qs : Int) ≤ 1048576000 := by omega
  refine G.rg tab_ok ok_heldState (hk := ?_)
  apply G.seq
  apply G.seq
  refine G.rg tab_ok ok_heldState (hk := ?_)
  refine G.iff (h1 := fun h2 => ?_) (h2 := fun h2 => ?_)
  ·try simp only [zqz] at h2
   apply G.seq
   refine G.rg tab_ok ok_heldState (hk := ?_)
   refine G.fin tab_ok (hr := ?_)
   simp only [oneOrTup]
   congr 1
   unfold heldSt
   rw [if_neg (by omega), if_pos h2]
  ·try simp only [zqz] at h2
   apply G.skip
   apply G.seq
   have hle2 := heldSS_le hs3 qs
   have hs5 : 0 ≤ heldSS (heldAS n xs) qs := by omega
   have hs4 : heldSS (heldAS n xs) qs + (tot hs : Int) ≤ 1048576000 := by omega
   refine G.rg tab_ok ok_heldState (hk := ?_)
   apply G.seq
   apply G.seq
   refine G.rg tab_ok ok_heldState (hk := ?_)
   refine G.fg [1, 22] (hk := ?_)
   refine G.iff (h1 := fun h3 => ?_) (h2 := fun h3 => ?_)
   ·try simp only [zqz] at h3
    apply G.seq
    refine G.rg tab_ok ok_heldState (hk := ?_)
    refine G.fin tab_ok (hr := ?_)
    simp only [oneOrTup]
    congr 1
    unfold heldSt
    rw [if_neg (by omega), if_neg (by omega), if_pos h3]
   ·try simp only [zqz] at h3
    apply G.skip
    apply G.seq
    refine G.rg tab_ok ok_heldState (hk := ?_)
    refine G.fin tab_ok (hr := ?_)
    simp only [oneOrTup]
    congr 1
    unfold heldSt
    rw [if_neg (by omega), if_neg (by omega), if_neg (by omega)]
def r_heldState (xs0 : List A) (rr : A) : Prop := ∃ (xs : List AT) (qs : List (List Int)) (hs : List (List Int)) (t : Int) (n : Int), (0 ≤ n) ∧ (n + (tA xs : Int) + (tot qs : Int) + (tot hs : Int) ≤ 1048576000) ∧ (xs.length < 1099511627776) ∧ (qs.length < 1099511627776) ∧ (hs.length < 1099511627776) ∧ (LW qs) ∧ (LW hs) ∧ xs0 = [.agg [.row false 2 (xs.map av), .row false 1 (qs.map ivL), .row false 1 (hs.map ivL), .int .i64 t], .int .i64 n] ∧ rr = .int .i64 (heldSt n xs qs hs)
noncomputable def q_heldState : List A → Option A := kgr r_heldState
theorem k_heldState : KOk Tryz.prog (14, q_heldState) := kgr_ok (enters_of Tryz.func14 rfl rfl) (by rintro xs0 rr ⟨xs, qs, hs, t, n, hc1, hc2, hc3, hc4, hc5, hc6, hc7, rfl, rfl⟩; exact heldState_ac xs qs hs t n hc1 hc2 hc3 hc4 hc5 hc6 hc7)
theorem e_heldState : ∀ (xs : List AT) (qs : List (List Int)) (hs : List (List Int)) (t : Int) (n : Int), (0 ≤ n) → (n + (tA xs : Int) + (tot qs : Int) + (tot hs : Int) ≤ 1048576000) → (xs.length < 1099511627776) → (qs.length < 1099511627776) → (hs.length < 1099511627776) → (LW qs) → (LW hs) → q_heldState [.agg [.row false 2 (xs.map av), .row false 1 (qs.map ivL), .row false 1 (hs.map ivL), .int .i64 t], .int .i64 n] = some (.int .i64 (heldSt n xs qs hs)) := by
 intro xs qs hs t n hc1 hc2 hc3 hc4 hc5 hc6 hc7
 refine kgr_eq (fun xs0 rr r2 h h2 => ?_) ⟨xs, qs, hs, t, n, hc1, hc2, hc3, hc4, hc5, hc6, hc7, rfl, rfl⟩
 obtain ⟨xs1, qs1, hs1, t1, n1, _, _, _, _, _, _, _, e1, rfl⟩ := h; obtain ⟨xs2, qs2, hs2, t2, n2, _, _, _, _, _, _, _, e2, rfl⟩ := h2
 rw [e1] at e2
 simp only [List.cons.injEq, A.int.injEq, A.agg.injEq, A.row.injEq, av_inj, ivL_inj, true_and, and_true] at e2
 obtain ⟨⟨e3, e4, e5, e6⟩, e7⟩ := e2
 subst e3 e4 e5 e6 e7
 rfl
theorem en_markActorS : Enters Tryz.prog 35 := enters_of Tryz.func35 rfl rfl
theorem en_markIntSS : Enters Tryz.prog 36 := enters_of Tryz.func36 rfl rfl
theorem markState_mc (h : Heap) (xs : List AT) (qs : List (List Int)) (hs : List (List Int)) (t : Int) (n : Int) (hc1 : h = [some (2, xs.map oav), some (1, qs.map ovL), some (1, hs.map ovL)]) (hc2 : 0 ≤ n) (hc3 : n + (tA xs : Int) + (tot qs : Int) + (tot hs : Int) ≤ 1048576000) (hc4 : xs.length < 1099511627776) (hc5 : qs.length < 1099511627776) (hc6 : hs.length < 1099511627776) : MC Tryz.prog 13 h [.agg [.sl 0 0 xs.length, .sl 1 0 qs.length, .sl 2 0 hs.length, .int .i64 t], .int .i64 n] (.int .i64 (n + (tA xs : Int) + (tot qs : Int) + (tot hs : Int))) ([some (2, (mkAS n xs).map oav), some (1, (mkSS (n + (tA xs : Int)) qs).map ovL), some (1, (mkSS (n + (tA xs : Int) + (tot qs : Int)) hs).map ovL)]) := by
 subst hc1
 have hivl := ivL_eq
 have hro := roLL_ovL
 have hpov := pureLL_ovL
 have hnov := noLoanLL_ovL
 refine MC.of tab_ok Tryz.func13 rfl (Nat.le_of_ble_eq_true rfl) fun w0 S0 fs0 φ0 hφ0 hq0 => ?_
 change G _ _ ⟨[(0, .agg [.sl 0 0 xs.length, .sl 1 0 qs.length, .sl 2 0 hs.length, .int .i64 t]), (1, .int .i64 n)], _, 18⟩
 apply G.seq
 refine G.rg tab_ok (kof_nil _) (hk := ?_)
 apply G.seq
 refine G.rgN 3 tab_ok (kof_nil _) (hk := ?_)
 refine G.cf [0] en_markActorS (markActorS_mc _ xs n rfl (by omega) (by omega) hc4) (h := ?_)
 refine G.rgC tab_ok (kof_nil _) (hk := ?_)
 apply G.seq
 refine G.rgN 3 tab_ok (kof_nil _) (hk := ?_)
 refine G.cf [1] en_markIntSS (markIntSS_mc _ qs (n + (tA xs : Int)) rfl (by omega) (by omega) hc5) (h := ?_)
 refine G.rgC tab_ok (kof_nil _) (hk := ?_)
 apply G.seq
 refine G.rgN 3 tab_ok (kof_nil _) (hk := ?_)
 refine G.cf [2] en_markIntSS (markIntSS_mc _ hs (n + (tA xs : Int) + (tot qs : Int)) rfl (by omega) (by omega) hc6) (h := ?_)
 refine G.rgC tab_ok (kof_nil _) (hk := ?_)
 apply G.seq
 refine G.rg tab_ok (kof_nil _) (hk := ?_)
 refine G.finM (junk := [some (4, [[.sl 0 0 xs.length, .sl 1 0 qs.length, .sl 2 0 hs.length, .int .i64 t]])]) tab_ok (hr := ?_) (hh := ?_) (hq := ?_) (hl := ?_)
 ·rfl
 ·rfl
 ·show (refLL _ _ && (refLL _ _ && (refLL _ _ && true))) = true
  rw [pureLL_ref (pureLL_oav _), pureLL_ref (pureLL_ovL _), pureLL_ref (pureLL_ovL _)]
  rfl
 ·rw [hφ0]; exact Nat.le_refl _
end Go.Proofs.YtdcjlemkegifjaaGreat.Ab
