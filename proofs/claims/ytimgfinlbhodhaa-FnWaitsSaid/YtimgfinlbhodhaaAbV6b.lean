/- Walks of functions. -/
import Derived.Test.YtimgfinlbhodhaaFwGk
import Derived.Test.YtimgfinlbhodhaaFwGi
namespace Go.Proofs.Ytimgfinlbhodhaa.Ab
open Go
set_option linter.unusedVariables false
set_option linter.unusedSimpArgs false
set_option maxHeartbeats 4000000
theorem ok_implBlockedOn : Kn.ok Try.prog (kof [(65, q_implIsState), (66, q_newRun), (127, q_r_wants)]) := kof_cons k_implIsState (kof_cons k_newRun (kof_cons k_r_wants ((kof_nil _))))
theorem implBlockedOn_ac (ps : List PG) (ks : List LK) (xs : List AT) (qs : List (List Int)) (hs : List (List Int)) (t : Int) (hc1 : NW ps) (hc2 : KW ks) (hc3 : ps.length < 3518437208781) (hc4 : ks.length < 2513169434844) (hc5 : XW xs) (hc6 : xs.length < 4398046511104) (hc7 : qs.length < 5864062014805) (hc8 : LW qs) (hc9 : hs.length < 5864062014805) (hc10 : LW hs) : AC Try.prog 52 [.agg [.row false 3 (ps.map pv), .row false 5 (ks.map kv)], .agg [.row false 2 (xs.map av), .row false 1 (qs.map ivL), .row false 1 (hs.map ivL), .int .i64 t]] (.row true 1 ((blkO ps ks xs qs hs t).map iv)) := by
  have e_implIsState := e_implIsState
  have e_newRun := e_newRun
  have e_r_wants := e_r_wants
  have hivl := ivL_eq
  have hro := roLL_ovL
  have hpov := pureLL_ovL
  have hnov := noLoanLL_ovL
  have hft : (false == true) = false := rfl
  have htf : (true == false) = false := rfl
  have b00 : ((0 : Int) == 0) = true := rfl
  have b01 : ((0 : Int) == 1) = false := rfl
  have b02 : ((0 : Int) == 2) = false := rfl
  have b03 : ((0 : Int) == 3) = false := rfl
  have b10 : ((1 : Int) == 0) = false := rfl
  have b11 : ((1 : Int) == 1) = true := rfl
  have b12 : ((1 : Int) == 2) = false := rfl
  have b13 : ((1 : Int) == 3) = false := rfl
  have b20 : ((2 : Int) == 0) = false := rfl
  have b21 : ((2 : Int) == 1) = false := rfl
  have b22 : ((2 : Int) == 2) = true := rfl
  have b23 : ((2 : Int) == 3) = false := rfl
  have b30 : ((3 : Int) == 0) = false := rfl
  have b31 : ((3 : Int) == 1) = false := rfl
  have b32 : ((3 : Int) == 2) = false := rfl
  have b33 : ((3 : Int) == 3) = true := rfl
  refine AC.of tab_ok Try.func52 rfl (Nat.le_of_ble_eq_true rfl) fun w0 S0 => ?_
  change G _ _ ⟨[(0, .agg [.row false 3 (ps.map pv), .row false 5 (ks.map kv)]), (1, .agg [.row false 2 (xs.map av), .row false 1 (qs.map ivL), .row false 1 (hs.map ivL), .int .i64 t])], [], 47⟩
  apply G.seq
  refine G.rg tab_ok ok_implBlockedOn (hk := ?_)
  apply G.seq
  apply G.seq
  refine G.rg tab_ok ok_implBlockedOn (hk := ?_)
  refine G.iff (h1 := fun h1 => ?_) (h2 := fun h1 => ?_)
  · try simp only [zqz] at h1
    apply G.seq
    refine G.rg tab_ok ok_implBlockedOn (hk := ?_)
    refine G.nilRow 4 1 rfl ?_
    refine G.fin tab_ok (hr := ?_)
    simp only [oneOrTup, blkO, h1]
    rfl
  · try simp only [zqz] at h1
    apply G.skip
    apply G.seq
    have c1 : stOk ps ks xs qs hs t = true := h1
    have hst := stOk_w c1
    have hnw := netOk_w hst.net
    have hp12 := hnw.pl
    have hk30 := hnw.kl
    have hx1 : xs.length ≤ ps.length := Nat.le_of_eq hst.xl
    have hx2 : ps.length ≤ xs.length := Nat.le_of_eq hst.xl.symm
    have hq1 : qs.length ≤ ks.length := Nat.le_of_eq hst.ql
    have hq2 : ks.length ≤ qs.length := Nat.le_of_eq hst.ql.symm
    have hh1 : hs.length ≤ ks.length := Nat.le_of_eq hst.hl
    have hh2 : ks.length ≤ hs.length := Nat.le_of_eq hst.hl.symm
    have ht0 := hst.t0
    have ht1 := hst.t1
    have hsq := st_q hst
    have hsh := st_h hst
    have hsa := st_a hst
    have hksB : ks.length < 2513169434844 := by omega
    have hpsB : ps.length < 3518437208781 := by omega
    refine G.rg tab_ok ok_implBlockedOn (hk := ?_)
    apply G.seq
    apply G.seq
    refine G.rg tab_ok ok_implBlockedOn (hk := ?_)
    apply G.block
    refine G.nm [3, 5, 6, 20, 21] (h := ?_)
    refine G.loopX (fun j : Nat => ⟨[(3, .ptr 0 0 0), (5, .ptr 1 0 0), (6, .sl 2 0 j), (20, .int .i64 ps.length), (21, .int .i64 j)], [some (4, [[.row false 2 (xs.map av), .row false 1 (qs.map ivL), .row false 1 (hs.map ivL), .int .i64 t]]), some (9, [[.row false 3 (ps.map pv), .row false 5 (ks.map kv), .row true 2 (xs.map oav), .row true 1 (qs.map ovL), .row true 1 (hs.map ovL), .int .i64 t, .row true 1 ((toT ps ks ks.length).map ovL), .row true 1 ((frT ps ks ks.length).map ovL), .nils]]), some (1, (blkN ps ks xs qs j).map iv)], 47⟩) (fun j => j ≤ ps.length) (fun j => ps.length - j) (0) (Nat.zero_le _) (by simp [blkN]) ?_
    intro j hj J hJ
    have hw : IntKind.i64.wrap ((j : Int) + 1) = (j : Int) + 1 := wrap64 (by omega) (by omega)
    rcases Classical.em ((wAtK ps xs j).1 = 2) with c0 | c0
    · skip
      obtain ⟨w, hw⟩ : ∃ w, wAtK ps xs j = w := ⟨_, rfl⟩
      obtain ⟨a, b⟩ := w
      rw [hw] at c0
      simp only at c0
      subst c0
      have hw2 : True := trivial
      apply G.seq
      refine G.rg tab_ok ok_implBlockedOn (hk := ?_)
      apply G.seq
      refine G.iff (h1 := fun h2 => ?_) (h2 := fun h2 => ?_)
      · try simp only [zqz] at h2
        apply G.skip
        apply G.seq
        apply G.block
        apply G.seq
        refine G.rg tab_ok ok_implBlockedOn (hk := ?_)
        apply G.seq
        have hjp : j < ps.length := by omega
        have hjx : j < xs.length := by omega
        have hji : (j : Int) < (ps.length : Int) := by omega
        have hjj : (j : Int) < (xs.length : Int) := by omega
        have hpc := st_pc hst hjp
        have hpc0 := hpc.1
        have hpc1 := hpc.2
        clear hpc
        have hwe : wantK (ps.getD j default).l (xs.getD j default).pc = wAtK ps xs j := rfl
        obtain ⟨L, hL⟩ : ∃ x, lnkK ps ks xs j = x := ⟨_, rfl⟩
        refine G.rg tab_ok ok_implBlockedOn (hk := ?_)
        apply G.seq
        apply G.seq
        obtain ⟨_, _, g1, g2⟩ := want_two hst hjp (show (wAtK ps xs j).1 = 2 by rw [hw])
        rw [← lnk_2 (ks := ks) (show (wAtK ps xs j).1 = 2 by rw [hw]), hL] at g1 g2
        have g3 : L < (qs.length : Int) := by omega
        have g5 : L.toNat < qs.length := by omega
        refine G.rgN 3 tab_ok ok_implBlockedOn (hk := ?_)
        refine G.rdC tab_ok ok_implBlockedOn (hk := ?_)
        refine G.fg [3, 5, 6, 9, 20, 21, 40] (hk := ?_)
        refine G.iff (h1 := fun h3 => ?_) (h2 := fun h3 => ?_)
        · try simp only [zqz] at h3
          refine G.rg tab_ok ok_implBlockedOn (hk := ?_)
          first
          | (have hap : List.map iv (blkN ps ks xs qs j) ++ [[.int .i64 (-1)]] = List.map iv (blkN ps ks xs qs (j + 1)) := by
               rw [← blkN_succ, blk_m1 (by first | exact .inl (by first | exact hw2 | (rw [hw]; decide)) | exact .inr (by rw [hL]; omega))]
               simp [iv])
          | (have hap : List.map iv (blkN ps ks xs qs j) ++ [[.int .i64 L]] = List.map iv (blkN ps ks xs qs (j + 1)) := by
               rw [← blkN_succ, blk_l (by rw [hw]) (by rw [hL]; omega), hL]
               simp [iv])
          have hbl := blkN_len (ps := ps) (ks := ks) (xs := xs) (qs := qs) j
          have hbt : List.take j (List.map iv (blkN ps ks xs qs j)) = List.map iv (blkN ps ks xs qs j) := List.take_of_length_le (by simp [blkN_len])
          have hq1 : ((j + 1 : Nat) : Int) ≤ 4611686018427387904 := by omega
          have hq2 : (j + 1) * 8 ≤ 70368744177664 := by omega
          refine G.rg tab_ok ok_implBlockedOn (hk := ?_)
          apply G.blk
          refine G.rg tab_ok ok_implBlockedOn (hk := ?_)
          refine G.nm [3, 5, 6, 20, 21] (h := ?_)
          exact G.upto (hJ (j + 1) (by omega) (by omega)) (by simp [blkN_len])
        · try simp only [zqz] at h3
          apply G.skip
          first
          | (have hap : List.map iv (blkN ps ks xs qs j) ++ [[.int .i64 (-1)]] = List.map iv (blkN ps ks xs qs (j + 1)) := by
               rw [← blkN_succ, blk_m1 (by first | exact .inl (by first | exact hw2 | (rw [hw]; decide)) | exact .inr (by rw [hL]; omega))]
               simp [iv])
          | (have hap : List.map iv (blkN ps ks xs qs j) ++ [[.int .i64 L]] = List.map iv (blkN ps ks xs qs (j + 1)) := by
               rw [← blkN_succ, blk_l (by rw [hw]) (by rw [hL]; omega), hL]
               simp [iv])
          have hbl := blkN_len (ps := ps) (ks := ks) (xs := xs) (qs := qs) j
          have hbt : List.take j (List.map iv (blkN ps ks xs qs j)) = List.map iv (blkN ps ks xs qs j) := List.take_of_length_le (by simp [blkN_len])
          have hq1 : ((j + 1 : Nat) : Int) ≤ 4611686018427387904 := by omega
          have hq2 : (j + 1) * 8 ≤ 70368744177664 := by omega
          refine G.rg tab_ok ok_implBlockedOn (hk := ?_)
          apply G.blk
          refine G.rg tab_ok ok_implBlockedOn (hk := ?_)
          refine G.nm [3, 5, 6, 20, 21] (h := ?_)
          exact G.upto (hJ (j + 1) (by omega) (by omega)) (by simp [blkN_len])
      · try simp only [zqz] at h2
        refine G.exit rfl ?_
        apply G.seq
        refine G.rg tab_ok ok_implBlockedOn (hk := ?_)
        obtain rfl : j = ps.length := by omega
        have hbl2 : ps.length ≤ (blkN ps ks xs qs ps.length).length := by rw [blkN_len]; exact Nat.le_refl _
        have hbt2 : List.take ps.length (List.map iv (blkN ps ks xs qs ps.length)) = List.map iv (blkN ps ks xs qs ps.length) := List.take_of_length_le (by simp [blkN_len])
        refine G.fin tab_ok (hr := ?_)
        simp only [oneOrTup, blkO, c1, if_true]
    · skip
      obtain ⟨w, hw⟩ : ∃ w, wAtK ps xs j = w := ⟨_, rfl⟩
      obtain ⟨a, b⟩ := w
      rw [hw] at c0
      simp only at c0
      have c3 : (a == 2) = false := by simpa using c0
      have hw2 : ¬ (wAtK ps xs j).1 = 2 := by rw [hw]; exact c0
      apply G.seq
      refine G.rg tab_ok ok_implBlockedOn (hk := ?_)
      apply G.seq
      refine G.iff (h1 := fun h4 => ?_) (h2 := fun h4 => ?_)
      · try simp only [zqz] at h4
        apply G.skip
        apply G.seq
        apply G.block
        apply G.seq
        refine G.rg tab_ok ok_implBlockedOn (hk := ?_)
        apply G.seq
        have hjp : j < ps.length := by omega
        have hjx : j < xs.length := by omega
        have hji : (j : Int) < (ps.length : Int) := by omega
        have hjj : (j : Int) < (xs.length : Int) := by omega
        have hpc := st_pc hst hjp
        have hpc0 := hpc.1
        have hpc1 := hpc.2
        clear hpc
        have hwe : wantK (ps.getD j default).l (xs.getD j default).pc = wAtK ps xs j := rfl
        obtain ⟨L, hL⟩ : ∃ x, lnkK ps ks xs j = x := ⟨_, rfl⟩
        refine G.rg tab_ok ok_implBlockedOn (hk := ?_)
        apply G.seq
        apply G.seq
        refine G.rgN 3 tab_ok ok_implBlockedOn (hk := ?_)
        refine G.rdC tab_ok ok_implBlockedOn (hk := ?_)
        refine G.iffT (h1 := ?_)
        refine G.rg tab_ok ok_implBlockedOn (hk := ?_)
        first
        | (have hap : List.map iv (blkN ps ks xs qs j) ++ [[.int .i64 (-1)]] = List.map iv (blkN ps ks xs qs (j + 1)) := by
             rw [← blkN_succ, blk_m1 (by first | exact .inl (by first | exact hw2 | (rw [hw]; decide)) | exact .inr (by rw [hL]; omega))]
             simp [iv])
        | (have hap : List.map iv (blkN ps ks xs qs j) ++ [[.int .i64 L]] = List.map iv (blkN ps ks xs qs (j + 1)) := by
             rw [← blkN_succ, blk_l (by rw [hw]) (by rw [hL]; omega), hL]
             simp [iv])
        have hbl := blkN_len (ps := ps) (ks := ks) (xs := xs) (qs := qs) j
        have hbt : List.take j (List.map iv (blkN ps ks xs qs j)) = List.map iv (blkN ps ks xs qs j) := List.take_of_length_le (by simp [blkN_len])
        have hq1 : ((j + 1 : Nat) : Int) ≤ 4611686018427387904 := by omega
        have hq2 : (j + 1) * 8 ≤ 70368744177664 := by omega
        refine G.rg tab_ok ok_implBlockedOn (hk := ?_)
        apply G.blk
        refine G.rg tab_ok ok_implBlockedOn (hk := ?_)
        refine G.nm [3, 5, 6, 20, 21] (h := ?_)
        exact G.upto (hJ (j + 1) (by omega) (by omega)) (by simp [blkN_len])
      · try simp only [zqz] at h4
        refine G.exit rfl ?_
        apply G.seq
        refine G.rg tab_ok ok_implBlockedOn (hk := ?_)
        obtain rfl : j = ps.length := by omega
        have hbl2 : ps.length ≤ (blkN ps ks xs qs ps.length).length := by rw [blkN_len]; exact Nat.le_refl _
        have hbt2 : List.take ps.length (List.map iv (blkN ps ks xs qs ps.length)) = List.map iv (blkN ps ks xs qs ps.length) := List.take_of_length_le (by simp [blkN_len])
        refine G.fin tab_ok (hr := ?_)
        simp only [oneOrTup, blkO, c1, if_true]
def r_implBlockedOn (xs0 : List A) (rr : A) : Prop := ∃ (ps : List PG) (ks : List LK) (xs : List AT) (qs : List (List Int)) (hs : List (List Int)) (t : Int), (NW ps) ∧ (KW ks) ∧ (ps.length < 3518437208781) ∧ (ks.length < 2513169434844) ∧ (XW xs) ∧ (xs.length < 4398046511104) ∧ (qs.length < 5864062014805) ∧ (LW qs) ∧ (hs.length < 5864062014805) ∧ (LW hs) ∧ xs0 = [.agg [.row false 3 (ps.map pv), .row false 5 (ks.map kv)], .agg [.row false 2 (xs.map av), .row false 1 (qs.map ivL), .row false 1 (hs.map ivL), .int .i64 t]] ∧ rr = .row true 1 ((blkO ps ks xs qs hs t).map iv)
noncomputable def q_implBlockedOn : List A → Option A := kgr r_implBlockedOn
theorem k_implBlockedOn : KOk Try.prog (52, q_implBlockedOn) := kgr_ok (enters_of Try.func52 rfl rfl) (by rintro xs0 rr ⟨ps, ks, xs, qs, hs, t, hc1, hc2, hc3, hc4, hc5, hc6, hc7, hc8, hc9, hc10, rfl, rfl⟩; exact implBlockedOn_ac ps ks xs qs hs t hc1 hc2 hc3 hc4 hc5 hc6 hc7 hc8 hc9 hc10)
theorem e_implBlockedOn : ∀ (ps : List PG) (ks : List LK) (xs : List AT) (qs : List (List Int)) (hs : List (List Int)) (t : Int), (NW ps) → (KW ks) → (ps.length < 3518437208781) → (ks.length < 2513169434844) → (XW xs) → (xs.length < 4398046511104) → (qs.length < 5864062014805) → (LW qs) → (hs.length < 5864062014805) → (LW hs) → q_implBlockedOn [.agg [.row false 3 (ps.map pv), .row false 5 (ks.map kv)], .agg [.row false 2 (xs.map av), .row false 1 (qs.map ivL), .row false 1 (hs.map ivL), .int .i64 t]] = some (.row true 1 ((blkO ps ks xs qs hs t).map iv)) := by
 intro ps ks xs qs hs t hc1 hc2 hc3 hc4 hc5 hc6 hc7 hc8 hc9 hc10
 refine kgr_eq (fun xs0 rr r2 h h2 => ?_) ⟨ps, ks, xs, qs, hs, t, hc1, hc2, hc3, hc4, hc5, hc6, hc7, hc8, hc9, hc10, rfl, rfl⟩
 obtain ⟨ps1, ks1, xs1, qs1, hs1, t1, _, _, _, _, _, _, _, _, _, _, e1, rfl⟩ := h; obtain ⟨ps2, ks2, xs2, qs2, hs2, t2, _, _, _, _, _, _, _, _, _, _, e2, rfl⟩ := h2
 rw [e1] at e2
 simp only [List.cons.injEq, A.int.injEq, A.agg.injEq, A.row.injEq, pv_inj, kv_inj, av_inj, ivL_inj, true_and, and_true] at e2
 obtain ⟨⟨e1, e2⟩, e3, e4, e5, e6⟩ := e2
 subst e1 e2 e3 e4 e5 e6
 rfl
end Go.Proofs.Ytimgfinlbhodhaa.Ab
