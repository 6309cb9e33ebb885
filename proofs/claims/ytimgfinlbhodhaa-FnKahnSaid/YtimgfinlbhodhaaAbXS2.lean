/- Walks of functions. -/
import Derived.Test.YtimgfinlbhodhaaAbSched
import Derived.Test.YtimgfinlbhodhaaFwGn
namespace Go.Proofs.Ytimgfinlbhodhaa.Ab
open Go
set_option linter.unusedVariables false
set_option linter.unusedSimpArgs false
set_option maxHeartbeats 4000000
theorem ok_implRunSchedule : Kn.ok Try.prog (kof [(65, q_implIsState), (66, q_newRun), (83, q_r_isProcess), (84, q_r_can)]) := kof_cons k_implIsState (kof_cons k_newRun (kof_cons k_r_isProcess (kof_cons k_r_can ((kof_nil _)))))
theorem en_r_stepS : Enters Try.prog 85 := enters_of Try.func85 rfl rfl
theorem implRunSchedule_ac (ps : List PG) (ks : List LK) (xs : List AT) (qs : List (List Int)) (hs : List (List Int)) (t : Int) (ls : List Int) (hc1 : NW ps) (hc2 : KW ks) (hc3 : ps.length < 3518437208781) (hc4 : ks.length < 2513169434844) (hc5 : XW xs) (hc6 : xs.length < 4398046511104) (hc7 : qs.length < 5864062014805) (hc8 : LW qs) (hc9 : hs.length < 5864062014805) (hc10 : LW hs) (hc11 : stOk ps ks xs qs hs t = true) (hc12 : ls.length ≤ 1000000) : AC Try.prog 21 [.agg [.row false 3 (ps.map pv), .row false 5 (ks.map kv)], .agg [.row false 2 (xs.map av), .row false 1 (qs.map ivL), .row false 1 (hs.map ivL), .int .i64 t], .row false 1 (ls.map iv)] (.tup [.agg [.row true 2 ((schedF ps ks ls (xs, qs, hs, t) 0).1.1.map oav), .row true 1 ((schedF ps ks ls (xs, qs, hs, t) 0).1.2.1.map ovL), .row true 1 ((schedF ps ks ls (xs, qs, hs, t) 0).1.2.2.1.map ovL), .int .i64 (schedF ps ks ls (xs, qs, hs, t) 0).1.2.2.2], .int .i64 ((schedF ps ks ls (xs, qs, hs, t) 0).2 : Nat)]) := by
  have e_implIsState := e_implIsState
  have e_newRun := e_newRun
  have e_r_isProcess := e_r_isProcess
  have e_r_can := e_r_can
  have hivl := ivL_eq
  have hro := roLL_ovL
  have hpov := pureLL_ovL
  have hnov := noLoanLL_ovL
  have hriv := roLL_ivL
  have hrq := roLL_ovL
  have hra := roLL_oav
  have hSOK := hc11
  have hok0 : okS ps ks (xs, qs, hs, t) := hSOK
  obtain ⟨R, hR⟩ : ∃ x, schedF ps ks ls (xs, qs, hs, t) 0 = x := ⟨_, rfl⟩
  rw [hR]
  refine AC.of tab_ok Try.func21 rfl (Nat.le_of_ble_eq_true rfl) fun w0 S0 => ?_
  change G _ _ ⟨[(0, .agg [.row false 3 (ps.map pv), .row false 5 (ks.map kv)]), (1, .agg [.row false 2 (xs.map av), .row false 1 (qs.map ivL), .row false 1 (hs.map ivL), .int .i64 t]), (2, .row false 1 (ls.map iv))], [], 45⟩
  apply G.seq
  refine G.rg tab_ok ok_implRunSchedule (hk := ?_)
  apply G.seq
  apply G.seq
  refine G.rg tab_ok ok_implRunSchedule (hk := ?_)
  refine G.iffF (h2 := ?_)
  apply G.skip
  apply G.seq
  refine G.rg tab_ok ok_implRunSchedule (hk := ?_)
  apply G.seq
  apply G.seq
  refine G.rg tab_ok ok_implRunSchedule (hk := ?_)
  apply G.block
  refine G.nm [6, 8, 9, 20, 21, 22] (h := ?_)
  refine G.loopX (fun x : SX × Nat × Nat => ⟨[(6, .ptr 0 0 0), (8, .ptr 1 0 0), (9, .int .i64 (x.2.1 : Nat)), (20, .row false 1 (ls.map iv)), (21, .int .i64 ls.length), (22, .int .i64 (x.2.2 : Nat))], [some (4, [[.nils, .nils, .nils, .int .i64 0]]), some (9, [[.row false 3 (ps.map pv), .row false 5 (ks.map kv), .row true 2 (x.1.1.map oav), .row true 1 (x.1.2.1.map ovL), .row true 1 (x.1.2.2.1.map ovL), .int .i64 x.1.2.2.2, .row true 1 ((toT ps ks ks.length).map ovL), .row true 1 ((frT ps ks ks.length).map ovL), .nils]])], 45⟩) (fun x => okS ps ks x.1 ∧ x.2.2 ≤ ls.length ∧ x.2.1 ≤ x.2.2 ∧ schedF ps ks (ls.drop x.2.2) x.1 x.2.1 = R) (fun x => ls.length - x.2.2) (((xs, qs, hs, t), 0, 0)) (⟨hok0, Nat.zero_le _, Nat.le_refl _, hR⟩) (by simp) ?_
  intro x hx J hJ
  obtain ⟨⟨xb, qb, hb, tb⟩, n, i⟩ := x
  simp only at hx ⊢
  obtain ⟨hok, hi, hni, hsc⟩ := hx
  have hs2 : stOk ps ks xb qb hb tb = true := hok
  have hwi : IntKind.i64.wrap ((i : Int) + 1) = ((i + 1 : Nat) : Int) := by rw [wrap64 (by omega) (by omega)]; omega
  have hwn : IntKind.i64.wrap ((n : Int) + 1) = ((n + 1 : Nat) : Int) := by rw [wrap64 (by omega) (by omega)]; omega
  apply G.seq
  refine G.rg tab_ok ok_implRunSchedule (hk := ?_)
  apply G.seq
  refine G.iff (h1 := fun h2 => ?_) (h2 := fun h2 => ?_)
  · try simp only [zqz] at h2
    apply G.skip
    apply G.seq
    apply G.block
    apply G.seq
    have hil : i < ls.length := by omega
    refine G.rg tab_ok ok_implRunSchedule (hk := ?_)
    apply G.seq
    obtain ⟨k, hk⟩ : ∃ x, ls.getD i default = x := ⟨_, rfl⟩
    rcases (show hasP ps k = false ∨ (hasP ps k = true ∧ canS ps ks (xb, qb, hb, tb) k.toNat = true) ∨ (hasP ps k = true ∧ canS ps ks (xb, qb, hb, tb) k.toNat = false) by cases hasP ps k <;> cases canS ps ks (xb, qb, hb, tb) k.toNat <;> simp) with c0 | ⟨c0, c1⟩ | ⟨c0, c1⟩
    · skip
      have hnx := sched_no hil (by rw [hk, c0]; rfl) hsc
      clear hsc
      refine G.rgN 4 tab_ok ok_implRunSchedule (hk := ?_)
      refine G.rdN 2 tab_ok ok_implRunSchedule (hk := ?_)
      refine G.rdC tab_ok ok_implRunSchedule (hk := ?_)
      refine G.iffF (h2 := ?_)
      apply G.skip
      apply G.blk
      refine G.rg tab_ok ok_implRunSchedule (hk := ?_)
      refine G.nm [6, 8, 9, 20, 21, 22] (h := ?_)
      first
      | (have hz := hm
         exact G.upto (hJ (nextS ps ks (xb, qb, hb, tb) m, n + 1, i + 1) ⟨okS_next hok hm c1, by simp only; omega, by simp only; omega, hnx⟩ (by simp only; omega)) (by simp [nextS]))
      | exact G.upto (hJ ((xb, qb, hb, tb), n, i + 1) ⟨hok, by simp only; omega, by simp only; omega, hnx⟩ (by simp only; omega)) (by simp)
    · skip
      have hnx := sched_yes hil (by rw [hk]; exact c0) (by rw [hk]; exact c1) hsc
      rw [hk] at hnx
      obtain ⟨k0, k1⟩ := hasP_iff.1 c0
      obtain ⟨m, rfl⟩ : ∃ m : Nat, k = (m : Int) := ⟨k.toNat, by omega⟩
      have hm : m < ps.length := by omega
      rw [Int.toNat_natCast] at c1 hnx
      unfold canS at c1
      simp only at c1
      clear k0 k1 hsc
      refine G.rgN 4 tab_ok ok_implRunSchedule (hk := ?_)
      refine G.rdN 2 tab_ok ok_implRunSchedule (hk := ?_)
      refine G.rdC tab_ok ok_implRunSchedule (hk := ?_)
      refine G.iffT (h1 := ?_)
      apply G.seq
      refine G.rgN 2 tab_ok ok_implRunSchedule (hk := ?_)
      refine G.cf [1] en_r_stepS (r_step_mc _ ps ks xb qb hb tb m rfl hs2 hm c1) (h := ?_)
      refine G.rgC tab_ok ok_implRunSchedule (hk := ?_)
      refine G.rg tab_ok ok_implRunSchedule (hk := ?_)
      apply G.blk
      refine G.rg tab_ok ok_implRunSchedule (hk := ?_)
      refine G.nm [6, 8, 9, 20, 21, 22] (h := ?_)
      first
      | (have hz := hm
         exact G.upto (hJ (nextS ps ks (xb, qb, hb, tb) m, n + 1, i + 1) ⟨okS_next hok hm c1, by simp only; omega, by simp only; omega, hnx⟩ (by simp only; omega)) (by simp [nextS]))
      | exact G.upto (hJ ((xb, qb, hb, tb), n, i + 1) ⟨hok, by simp only; omega, by simp only; omega, hnx⟩ (by simp only; omega)) (by simp)
    · skip
      have hnx := sched_no hil (by rw [hk, c0, c1]; rfl) hsc
      obtain ⟨k0, k1⟩ := hasP_iff.1 c0
      obtain ⟨m, rfl⟩ : ∃ m : Nat, k = (m : Int) := ⟨k.toNat, by omega⟩
      have hm : m < ps.length := by omega
      rw [Int.toNat_natCast] at c1
      unfold canS at c1
      simp only at c1
      clear k0 k1 hsc
      refine G.rgN 4 tab_ok ok_implRunSchedule (hk := ?_)
      refine G.rdN 2 tab_ok ok_implRunSchedule (hk := ?_)
      refine G.rdC tab_ok ok_implRunSchedule (hk := ?_)
      refine G.iffF (h2 := ?_)
      apply G.skip
      apply G.blk
      refine G.rg tab_ok ok_implRunSchedule (hk := ?_)
      refine G.nm [6, 8, 9, 20, 21, 22] (h := ?_)
      first
      | (have hz := hm
         exact G.upto (hJ (nextS ps ks (xb, qb, hb, tb) m, n + 1, i + 1) ⟨okS_next hok hm c1, by simp only; omega, by simp only; omega, hnx⟩ (by simp only; omega)) (by simp [nextS]))
      | exact G.upto (hJ ((xb, qb, hb, tb), n, i + 1) ⟨hok, by simp only; omega, by simp only; omega, hnx⟩ (by simp only; omega)) (by simp)
  · try simp only [zqz] at h2
    refine G.exit rfl ?_
    apply G.seq
    obtain rfl : i = ls.length := by omega
    have hRe : R = ((xb, qb, hb, tb), n) := by rw [← hsc, List.drop_length]; rfl
    subst hRe
    simp only
    refine G.focus 1 0 2 rfl rfl rfl ?_
    simp only [withH, List.set_cons_succ, List.set_cons_zero, List.nil_append, List.cons_append, List.length_cons, List.length_nil, List.length_map, Nat.zero_add, Nat.reduceAdd]
    refine G.focus 1 0 3 rfl rfl rfl ?_
    simp only [withH, List.set_cons_succ, List.set_cons_zero, List.nil_append, List.cons_append, List.length_cons, List.length_nil, List.length_map, Nat.zero_add, Nat.reduceAdd]
    refine G.focus 1 0 4 rfl rfl rfl ?_
    simp only [withH, List.set_cons_succ, List.set_cons_zero, List.nil_append, List.cons_append, List.length_cons, List.length_nil, List.length_map, Nat.zero_add, Nat.reduceAdd]
    refine G.rg tab_ok ok_implRunSchedule (hk := ?_)
    refine G.fin tab_ok (hr := ?_)
    rfl
def r_implRunSchedule (xs0 : List A) (rr : A) : Prop := ∃ (ps : List PG) (ks : List LK) (xs : List AT) (qs : List (List Int)) (hs : List (List Int)) (t : Int) (ls : List Int), (NW ps) ∧ (KW ks) ∧ (ps.length < 3518437208781) ∧ (ks.length < 2513169434844) ∧ (XW xs) ∧ (xs.length < 4398046511104) ∧ (qs.length < 5864062014805) ∧ (LW qs) ∧ (hs.length < 5864062014805) ∧ (LW hs) ∧ (stOk ps ks xs qs hs t = true) ∧ (ls.length ≤ 1000000) ∧ xs0 = [.agg [.row false 3 (ps.map pv), .row false 5 (ks.map kv)], .agg [.row false 2 (xs.map av), .row false 1 (qs.map ivL), .row false 1 (hs.map ivL), .int .i64 t], .row false 1 (ls.map iv)] ∧ rr = .tup [.agg [.row true 2 ((schedF ps ks ls (xs, qs, hs, t) 0).1.1.map oav), .row true 1 ((schedF ps ks ls (xs, qs, hs, t) 0).1.2.1.map ovL), .row true 1 ((schedF ps ks ls (xs, qs, hs, t) 0).1.2.2.1.map ovL), .int .i64 (schedF ps ks ls (xs, qs, hs, t) 0).1.2.2.2], .int .i64 ((schedF ps ks ls (xs, qs, hs, t) 0).2 : Nat)]
noncomputable def q_implRunSchedule : List A → Option A := kgr r_implRunSchedule
theorem k_implRunSchedule : KOk Try.prog (21, q_implRunSchedule) := kgr_ok (enters_of Try.func21 rfl rfl) (by rintro xs0 rr ⟨ps, ks, xs, qs, hs, t, ls, hc1, hc2, hc3, hc4, hc5, hc6, hc7, hc8, hc9, hc10, hc11, hc12, rfl, rfl⟩; exact implRunSchedule_ac ps ks xs qs hs t ls hc1 hc2 hc3 hc4 hc5 hc6 hc7 hc8 hc9 hc10 hc11 hc12)
theorem e_implRunSchedule : ∀ (ps : List PG) (ks : List LK) (xs : List AT) (qs : List (List Int)) (hs : List (List Int)) (t : Int) (ls : List Int), (NW ps) → (KW ks) → (ps.length < 3518437208781) → (ks.length < 2513169434844) → (XW xs) → (xs.length < 4398046511104) → (qs.length < 5864062014805) → (LW qs) → (hs.length < 5864062014805) → (LW hs) → (stOk ps ks xs qs hs t = true) → (ls.length ≤ 1000000) → q_implRunSchedule [.agg [.row false 3 (ps.map pv), .row false 5 (ks.map kv)], .agg [.row false 2 (xs.map av), .row false 1 (qs.map ivL), .row false 1 (hs.map ivL), .int .i64 t], .row false 1 (ls.map iv)] = some (.tup [.agg [.row true 2 ((schedF ps ks ls (xs, qs, hs, t) 0).1.1.map oav), .row true 1 ((schedF ps ks ls (xs, qs, hs, t) 0).1.2.1.map ovL), .row true 1 ((schedF ps ks ls (xs, qs, hs, t) 0).1.2.2.1.map ovL), .int .i64 (schedF ps ks ls (xs, qs, hs, t) 0).1.2.2.2], .int .i64 ((schedF ps ks ls (xs, qs, hs, t) 0).2 : Nat)]) := by
 intro ps ks xs qs hs t ls hc1 hc2 hc3 hc4 hc5 hc6 hc7 hc8 hc9 hc10 hc11 hc12
 refine kgr_eq (fun xs0 rr r2 h h2 => ?_) ⟨ps, ks, xs, qs, hs, t, ls, hc1, hc2, hc3, hc4, hc5, hc6, hc7, hc8, hc9, hc10, hc11, hc12, rfl, rfl⟩
 obtain ⟨ps1, ks1, xs1, qs1, hs1, t1, ls1, _, _, _, _, _, _, _, _, _, _, _, _, e1, rfl⟩ := h; obtain ⟨ps2, ks2, xs2, qs2, hs2, t2, ls2, _, _, _, _, _, _, _, _, _, _, _, _, e2, rfl⟩ := h2
 rw [e1] at e2
 simp only [List.cons.injEq, A.int.injEq, A.agg.injEq, A.row.injEq, pv_inj, kv_inj, av_inj, ivL_inj, iv_inj, true_and, and_true] at e2
 obtain ⟨⟨e1, e2⟩, ⟨e3, e4, e5, e6⟩, e7⟩ := e2
 subst e1 e2 e3 e4 e5 e6 e7
 rfl
end Go.Proofs.Ytimgfinlbhodhaa.Ab
