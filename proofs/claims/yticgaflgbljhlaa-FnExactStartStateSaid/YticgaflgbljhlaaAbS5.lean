/- Walks of functions of the program: what each answers, for all arguments that meet its conditions. -/
import Derived.Test.YticgaflgbljhlaaAbStart
import Derived.Test.YticgaflgbljhlaaAbP50
import Derived.Test.YticgaflgbljhlaaAbNet4
import Derived.Test.YticgaflgbljhlaaFwB
import Derived.Test.YticgaflgbljhlaaAbAuto2
namespace Go.Proofs.Yticgaflgbljhlaa.Ab
open Go
set_option linter.unusedVariables false
set_option linter.unusedSimpArgs false
set_option maxHeartbeats 4000000

theorem markActorS_mc (h : Heap) (xs : List AT) (n : Int) (hc1 : h = [some (2, xs.map oav)]) (hc2 : 0 ≤ n) (hc3 : n + (tA xs : Int) ≤ 1048576000) (hc4 : xs.length < 1099511627776) : MC Try.prog 88 h [.sl 0 0 xs.length, .int .i64 n] (.int .i64 (n + (tA xs : Int))) ([some (2, (mkG wAt mAt n xs).map oav)]) := by
  subst hc1
  unfold tA at hc3 ⊢
  refine MC.of tab_ok Try.func88 rfl (Nat.le_of_ble_eq_true rfl) fun w0 S0 fs0 φ0 hφ0 hq0 => ?_
  change G _ _ ⟨[(0, .sl 0 0 xs.length), (1, .int .i64 n)], _, 27⟩
  apply G.seq
  refine G.rg tab_ok (kof_nil _) (hk := ?_)
  apply G.seq
  apply G.seq
  refine G.rg tab_ok (kof_nil _) (hk := ?_)
  apply G.block
  refine G.fg [0, 1, 5] (hk := ?_)
  refine G.loopX (fun j : Nat => ⟨[(0, .sl 0 0 xs.length), (1, .int .i64 (n + (gtot wAt (xs.take j) : Int))), (5, .int .i64 j)], [some (2, (upG wAt mAt n xs j).map oav)], 27⟩) (fun j => j ≤ xs.length) (fun j => xs.length - j) (0) (Nat.zero_le _) (by simp [gtot_nil, upG_zero]) ?_
  intro j hj J hJ
  have hw : IntKind.i64.wrap ((j : Int) + 1) = (j : Int) + 1 := wrap64 (by omega) (by omega)
  apply G.seq
  apply G.seq
  refine G.rg tab_ok (kof_nil _) (hk := ?_)
  refine G.iff (h1 := fun h1 => ?_) (h2 := fun h1 => ?_)
  · try simp only [decide_eq_true_eq, decide_eq_false_iff_not, Bool.and_eq_true, Bool.and_eq_false_imp, Bool.or_eq_true, Bool.or_eq_false_iff, Bool.not_eq_true', Bool.not_eq_false', bne_iff_ne, beq_iff_eq, bne_eq_false_iff_eq, beq_eq_false_iff_ne, ne_eq, Int.ofNat_lt, Int.not_lt, Int.not_le, Int.ofNat_le, Nat.not_lt, Nat.not_le, gt_iff_lt, ge_iff_le] at h1
    apply G.skip
    apply G.seq
    apply G.block
    apply G.seq
    have hlt : j < (upG wAt mAt n xs j).length := by rw [upG_len n hj]; exact h1
    have hgd := upG_get (w := wAt) (m := mAt) n h1
    have htg := gtot_get (f := wAt) h1
    have hwd : wAt (xs.getD j default) = 1 + (xs.getD j default).rs.length := rfl
    have hw1 : IntKind.i64.wrap (n + (gtot wAt (xs.take j) : Int) + 1) = n + (gtot wAt (xs.take j) : Int) + 1 := wrap64 (by omega) (by omega)
    have hgu : ((upG wAt mAt n xs j).map oav)[j]? = some [.int .i64 (xs.getD j default).pc, .row true 1 ((xs.getD j default).rs.map iv)] := by
      rw [List.getElem?_map, List.getElem?_eq_getElem hlt]
      have e : (upG wAt mAt n xs j)[j] = (xs.getD j default) := by rw [← hgd]; simp [List.getD_eq_getElem?_getD, List.getElem?_eq_getElem hlt]
      rw [e]
      rfl
    have hr1 : ∀ e : List A, (((upG wAt mAt n xs j).map oav).set j e)[j]? = some e := row_self hgu
    have hr2 : ∀ e e2 : List A, (((upG wAt mAt n xs j).map oav).set j e).set j e2 = ((upG wAt mAt n xs j).map oav).set j e2 := fun _ _ => List.set_set ..
    have hrdc : ∀ (e : List A) (a b : Nat), rdCells (((upG wAt mAt n xs j).map oav).set j e) j a b = if ((e.drop a).take b).length = b ∧ b ≠ 0 then some ((e.drop a).take b) else none := fun e a b => by simp only [rdCells, hr1]
    refine G.rg tab_ok (kof_nil _) (hk := ?_)
    apply G.seq
    refine G.rg tab_ok (kof_nil _) (hk := ?_)
    refine G.focus 0 j 1 (e := [.int .i64 (n + (gtot wAt (xs.take j) : Int)), .row true 1 ((xs.getD j default).rs.map iv)]) (sz' := 1) (es' := (xs.getD j default).rs.map iv) rfl (hr1 _) rfl ?_
    simp only [withH]
    refine G.rgN 6 tab_ok (kof_nil _) (hk := ?_)
    refine G.cf [1] en_markIntS (markIntS_mc [some (1, (xs.getD j default).rs.map iv)] 0 _ (n + (gtot wAt (xs.take j) : Int) + 1) rfl (by omega) (by omega) (by omega)) (h := ?_)
    refine G.rgC tab_ok (kof_nil _) (hk := ?_)
    refine G.unfocusE 0 j 1 1 (f := oav) (l := (upG wAt mAt n xs j)) (mAt (n + (gtot wAt (xs.take j) : Int)) (xs.getD j default)) rfl hlt rfl rfl (by decide) (by first | rw [mkP_len] | rw [mkI_len] | simp [mkP_len, mkI_len]) (by first | exact pureLL_insv _ | exact pureLL_iv _) rfl ?_
    rw [upG_set n h1]
    refine G.pop [0, 1, 5] (h' := [some (2, (upG wAt mAt n xs (j + 1)).map oav)]) (junk := [none]) rfl ?_ (by rw [hφ0]; exact Nat.le_refl _) ?_
    · show (refLL _ _ && true) = true
      rw [pureLL_ref (pureLL_oav _)]
      rfl
    apply G.blk
    refine G.rg tab_ok (kof_nil _) (hk := ?_)
    refine G.fg [0, 1, 5] (hk := ?_)
    have hts := gtot_succ (f := wAt) h1
    rw [hwd] at hts
    exact G.upto (hJ (j + 1) (by omega) (by omega)) (by simp [clip, refA, hts]; omega)
  · try simp only [decide_eq_true_eq, decide_eq_false_iff_not, Bool.and_eq_true, Bool.and_eq_false_imp, Bool.or_eq_true, Bool.or_eq_false_iff, Bool.not_eq_true', Bool.not_eq_false', bne_iff_ne, beq_iff_eq, bne_eq_false_iff_eq, beq_eq_false_iff_ne, ne_eq, Int.ofNat_lt, Int.not_lt, Int.not_le, Int.ofNat_le, Nat.not_lt, Nat.not_le, gt_iff_lt, ge_iff_le] at h1
    refine G.exit rfl ?_
    apply G.seq
    refine G.rg tab_ok (kof_nil _) (hk := ?_)
    obtain rfl : j = xs.length := by omega
    rw [upG_full, List.take_length]
    refine G.finM (junk := []) tab_ok (hr := ?_) (hh := ?_) (hq := ?_) (hl := ?_)
    · rfl
    · simp
    · show (refLL _ _ && true) = true
      rw [pureLL_ref (pureLL_oav _)]
      rfl
    · rw [hφ0]; exact Nat.le_refl _

theorem ok_heldActorS : Kn.ok Try.prog (kof [(44, q_heldIntS)]) := kof_cons k_heldIntS ((kof_nil _))
theorem heldActorS_ac (xs : List AT) (n : Int) (hc1 : 0 ≤ n) (hc2 : n + (tA xs : Int) ≤ 1048576000) (hc3 : xs.length < 1099511627776) : AC Try.prog 89 [.row false 2 (xs.map av), .int .i64 n] (.int .i64 (heldAS n xs)) := by
  have e_heldIntS := e_heldIntS
  unfold tA at hc2
  refine AC.of tab_ok Try.func89 rfl (Nat.le_of_ble_eq_true rfl) fun w0 S0 => ?_
  change G _ _ ⟨[(0, .row false 2 (xs.map av)), (1, .int .i64 n)], [], 31⟩
  apply G.seq
  refine G.rg tab_ok ok_heldActorS (hk := ?_)
  apply G.seq
  apply G.seq
  refine G.rg tab_ok ok_heldActorS (hk := ?_)
  apply G.block
  refine G.cn [0, 1, 5] [] (h := ?_)
  refine G.loopX (fun j : Nat => ⟨[(0, .row false 2 (xs.map av)), (1, .int .i64 (n + (gtot wAt (xs.take j) : Int))), (5, .int .i64 j)], [], 31⟩) (fun j => j ≤ xs.length ∧ ∀ k < j, xs.getD k default = mAt (n + (gtot wAt (xs.take k) : Int)) (xs.getD k default)) (fun j => xs.length - j) (0) (⟨Nat.zero_le _, by omega⟩) (by simp [gtot_nil]) ?_
  intro j hj J hJ
  obtain ⟨hj, hall⟩ := hj
  have hw : IntKind.i64.wrap ((j : Int) + 1) = (j : Int) + 1 := wrap64 (by omega) (by omega)
  apply G.seq
  apply G.seq
  refine G.rg tab_ok ok_heldActorS (hk := ?_)
  refine G.iff (h1 := fun h1 => ?_) (h2 := fun h1 => ?_)
  · try simp only [decide_eq_true_eq, decide_eq_false_iff_not, Bool.and_eq_true, Bool.and_eq_false_imp, Bool.or_eq_true, Bool.or_eq_false_iff, Bool.not_eq_true', Bool.not_eq_false', bne_iff_ne, beq_iff_eq, bne_eq_false_iff_eq, beq_eq_false_iff_ne, ne_eq, Int.ofNat_lt, Int.not_lt, Int.not_le, Int.ofNat_le, Nat.not_lt, Nat.not_le, gt_iff_lt, ge_iff_le] at h1
    apply G.skip
    apply G.seq
    apply G.block
    apply G.seq
    apply G.seq
    have htg := gtot_get (f := wAt) h1
    have hwd : wAt (xs.getD j default) = 1 + (xs.getD j default).rs.length := rfl
    have hw1 : IntKind.i64.wrap (n + (gtot wAt (xs.take j) : Int) + 1) = n + (gtot wAt (xs.take j) : Int) + 1 := wrap64 (by omega) (by omega)
    have hq1 : 0 ≤ n + (gtot wAt (xs.take j) : Int) + 1 := by omega
    have hq2 : n + (gtot wAt (xs.take j) : Int) + 1 ≤ 1099511627776 := by omega
    have hq3 : (xs.getD j default).rs.length < 1099511627776 := by omega
    refine G.rg tab_ok ok_heldActorS (hk := ?_)
    refine G.fg [0, 1, 5, 18] (hk := ?_)
    refine G.iff (h1 := fun h2 => ?_) (h2 := fun h2 => ?_)
    · try simp only [decide_eq_true_eq, decide_eq_false_iff_not, Bool.and_eq_true, Bool.and_eq_false_imp, Bool.or_eq_true, Bool.or_eq_false_iff, Bool.not_eq_true', Bool.not_eq_false', bne_iff_ne, beq_iff_eq, bne_eq_false_iff_eq, beq_eq_false_iff_ne, ne_eq, Int.ofNat_lt, Int.not_lt, Int.not_le, Int.ofNat_le, Nat.not_lt, Nat.not_le, gt_iff_lt, ge_iff_le] at h2
      apply G.seq
      refine G.rg tab_ok ok_heldActorS (hk := ?_)
      refine G.fin tab_ok (hr := ?_)
      simp only [oneOrTup]
      congr 1
      exact (heldG_no (w := wAt) (m := mAt) (by omega) (fun e => h2 (by rw [e]; rfl))).symm
    · try simp only [decide_eq_true_eq, decide_eq_false_iff_not, Bool.and_eq_true, Bool.and_eq_false_imp, Bool.or_eq_true, Bool.or_eq_false_iff, Bool.not_eq_true', Bool.not_eq_false', bne_iff_ne, beq_iff_eq, bne_eq_false_iff_eq, beq_eq_false_iff_ne, ne_eq, Int.ofNat_lt, Int.not_lt, Int.not_le, Int.ofNat_le, Nat.not_lt, Nat.not_le, gt_iff_lt, ge_iff_le] at h2
      apply G.skip
      apply G.seq
      refine G.rg tab_ok ok_heldActorS (hk := ?_)
      apply G.seq
      refine G.rg tab_ok ok_heldActorS (hk := ?_)
      apply G.seq
      refine G.rg tab_ok ok_heldActorS (hk := ?_)
      refine G.fg [0, 1, 5, 29] (hk := ?_)
      refine G.iff (h1 := fun h3 => ?_) (h2 := fun h3 => ?_)
      · try simp only [decide_eq_true_eq, decide_eq_false_iff_not, Bool.and_eq_true, Bool.and_eq_false_imp, Bool.or_eq_true, Bool.or_eq_false_iff, Bool.not_eq_true', Bool.not_eq_false', bne_iff_ne, beq_iff_eq, bne_eq_false_iff_eq, beq_eq_false_iff_ne, ne_eq, Int.ofNat_lt, Int.not_lt, Int.not_le, Int.ofNat_le, Nat.not_lt, Nat.not_le, gt_iff_lt, ge_iff_le] at h3
        apply G.seq
        refine G.rg tab_ok ok_heldActorS (hk := ?_)
        refine G.fin tab_ok (hr := ?_)
        simp only [oneOrTup]
        congr 1
        exact (heldG_no (w := wAt) (m := mAt) (by omega) (mAt_bad (by omega) h3)).symm
      · try simp only [decide_eq_true_eq, decide_eq_false_iff_not, Bool.and_eq_true, Bool.and_eq_false_imp, Bool.or_eq_true, Bool.or_eq_false_iff, Bool.not_eq_true', Bool.not_eq_false', bne_iff_ne, beq_iff_eq, bne_eq_false_iff_eq, beq_eq_false_iff_ne, ne_eq, Int.ofNat_lt, Int.not_lt, Int.not_le, Int.ofNat_le, Nat.not_lt, Nat.not_le, gt_iff_lt, ge_iff_le] at h3
        apply G.skip
        apply G.blk
        refine G.rg tab_ok ok_heldActorS (hk := ?_)
        refine G.cn [0, 1, 5] [] (h := ?_)
        have hts := gtot_succ (f := wAt) h1
        rw [hwd] at hts
        have hyes := heldI_pos (Int.not_lt.2 h3)
        have hv : heldI (n + (gtot wAt (xs.take j) : Int) + 1) (xs.getD j default).rs = n + (gtot wAt (xs.take (j + 1)) : Int) := by rw [hyes.2]; omega
        rw [hv]
        exact G.upto (hJ (j + 1) ⟨by omega, held_up hall (mAt_mk h2 hyes.1)⟩ (by omega)) (by simp)
  · try simp only [decide_eq_true_eq, decide_eq_false_iff_not, Bool.and_eq_true, Bool.and_eq_false_imp, Bool.or_eq_true, Bool.or_eq_false_iff, Bool.not_eq_true', Bool.not_eq_false', bne_iff_ne, beq_iff_eq, bne_eq_false_iff_eq, beq_eq_false_iff_ne, ne_eq, Int.ofNat_lt, Int.not_lt, Int.not_le, Int.ofNat_le, Nat.not_lt, Nat.not_le, gt_iff_lt, ge_iff_le] at h1
    refine G.exit rfl ?_
    apply G.seq
    refine G.rg tab_ok ok_heldActorS (hk := ?_)
    obtain rfl : j = xs.length := by omega
    refine G.fin tab_ok (hr := ?_)
    simp only [oneOrTup]
    congr 1
    rw [List.take_length]
    unfold heldAS
    exact (heldG_yes hall).symm
def r_heldActorS (xs0 : List A) (rr : A) : Prop := ∃ (xs : List AT) (n : Int), (0 ≤ n) ∧ (n + (tA xs : Int) ≤ 1048576000) ∧ (xs.length < 1099511627776) ∧ xs0 = [.row false 2 (xs.map av), .int .i64 n] ∧ rr = .int .i64 (heldAS n xs)
noncomputable def q_heldActorS : List A → Option A := kgr r_heldActorS
theorem k_heldActorS : KOk Try.prog (89, q_heldActorS) := kgr_ok (enters_of Try.func89 rfl rfl) (by rintro xs0 rr ⟨xs, n, hc1, hc2, hc3, rfl, rfl⟩; exact heldActorS_ac xs n hc1 hc2 hc3)
theorem e_heldActorS : ∀ (xs : List AT) (n : Int), (0 ≤ n) → (n + (tA xs : Int) ≤ 1048576000) → (xs.length < 1099511627776) → q_heldActorS [.row false 2 (xs.map av), .int .i64 n] = some (.int .i64 (heldAS n xs)) := by
  intro xs n hc1 hc2 hc3
  refine kgr_eq (fun xs0 rr r2 h h2 => ?_) ⟨xs, n, hc1, hc2, hc3, rfl, rfl⟩
  obtain ⟨xs1, n1, _, _, _, e1, rfl⟩ := h; obtain ⟨xs2, n2, _, _, _, e2, rfl⟩ := h2
  rw [e1] at e2
  simp only [List.cons.injEq, A.int.injEq, A.bool.injEq, A.agg.injEq, A.row.injEq, A.fn.injEq, A.rp.injEq, insv_inj, iv_inj, pv_inj, kv_inj, av_inj, true_and, and_true] at e2
  simp [e2]

theorem ok_heldState : Kn.ok Try.prog (kof [(89, q_heldActorS), (51, q_heldIntSS)]) := kof_cons k_heldActorS (kof_cons k_heldIntSS ((kof_nil _)))
theorem heldState_ac (xs : List AT) (qs : List (List Int)) (hs : List (List Int)) (t : Int) (n : Int) (hc1 : 0 ≤ n) (hc2 : n + (tA xs : Int) + (tot qs : Int) + (tot hs : Int) ≤ 1048576000) (hc3 : xs.length < 1099511627776) (hc4 : qs.length < 1099511627776) (hc5 : hs.length < 1099511627776) (hc6 : LW qs) (hc7 : LW hs) : AC Try.prog 27 [.agg [.row false 2 (xs.map av), .row false 1 (qs.map ivL), .row false 1 (hs.map ivL), .int .i64 t], .int .i64 n] (.int .i64 (heldSt n xs qs hs)) := by
  have e_heldActorS := e_heldActorS
  have e_heldIntSS := e_heldIntSS
  have hivl := ivL_eq
  have hs1 : n + (tA xs : Int) ≤ 1048576000 := by omega
  refine AC.of tab_ok Try.func27 rfl (Nat.le_of_ble_eq_true rfl) fun w0 S0 => ?_
  change G _ _ ⟨[(0, .agg [.row false 2 (xs.map av), .row false 1 (qs.map ivL), .row false 1 (hs.map ivL), .int .i64 t]), (1, .int .i64 n)], [], 24⟩
  apply G.seq
  refine G.rg tab_ok ok_heldState (hk := ?_)
  apply G.seq
  refine G.rg tab_ok ok_heldState (hk := ?_)
  apply G.seq
  apply G.seq
  refine G.rg tab_ok ok_heldState (hk := ?_)
  refine G.fg [1, 2, 10] (hk := ?_)
  refine G.iff (h1 := fun h1 => ?_) (h2 := fun h1 => ?_)
  · try simp only [decide_eq_true_eq, decide_eq_false_iff_not, Bool.and_eq_true, Bool.and_eq_false_imp, Bool.or_eq_true, Bool.or_eq_false_iff, Bool.not_eq_true', Bool.not_eq_false', bne_iff_ne, beq_iff_eq, bne_eq_false_iff_eq, beq_eq_false_iff_ne, ne_eq, Int.ofNat_lt, Int.not_lt, Int.not_le, Int.ofNat_le, Nat.not_lt, Nat.not_le, gt_iff_lt, ge_iff_le] at h1
    apply G.seq
    refine G.rg tab_ok ok_heldState (hk := ?_)
    refine G.fin tab_ok (hr := ?_)
    simp only [oneOrTup]
    congr 1
    unfold heldSt
    rw [if_pos h1]
  · try simp only [decide_eq_true_eq, decide_eq_false_iff_not, Bool.and_eq_true, Bool.and_eq_false_imp, Bool.or_eq_true, Bool.or_eq_false_iff, Bool.not_eq_true', Bool.not_eq_false', bne_iff_ne, beq_iff_eq, bne_eq_false_iff_eq, beq_eq_false_iff_ne, ne_eq, Int.ofNat_lt, Int.not_lt, Int.not_le, Int.ofNat_le, Nat.not_lt, Nat.not_le, gt_iff_lt, ge_iff_le] at h1
    apply G.skip
    apply G.seq
    have hle := heldAS_le n xs
    have hs3 : 0 ≤ heldAS n xs := by omega
    have hs2 : heldAS n xs + (tot qs : Int) ≤ 1048576000 := by omega
    refine G.rg tab_ok ok_heldState (hk := ?_)
    apply G.seq
    apply G.seq
    refine G.rg tab_ok ok_heldState (hk := ?_)
    refine G.iff (h1 := fun h2 => ?_) (h2 := fun h2 => ?_)
    · try simp only [decide_eq_true_eq, decide_eq_false_iff_not, Bool.and_eq_true, Bool.and_eq_false_imp, Bool.or_eq_true, Bool.or_eq_false_iff, Bool.not_eq_true', Bool.not_eq_false', bne_iff_ne, beq_iff_eq, bne_eq_false_iff_eq, beq_eq_false_iff_ne, ne_eq, Int.ofNat_lt, Int.not_lt, Int.not_le, Int.ofNat_le, Nat.not_lt, Nat.not_le, gt_iff_lt, ge_iff_le] at h2
      apply G.seq
      refine G.rg tab_ok ok_heldState (hk := ?_)
      refine G.fin tab_ok (hr := ?_)
      simp only [oneOrTup]
      congr 1
      unfold heldSt
      rw [if_neg (by omega), if_pos h2]
    · try simp only [decide_eq_true_eq, decide_eq_false_iff_not, Bool.and_eq_true, Bool.and_eq_false_imp, Bool.or_eq_true, Bool.or_eq_false_iff, Bool.not_eq_true', Bool.not_eq_false', bne_iff_ne, beq_iff_eq, bne_eq_false_iff_eq, beq_eq_false_iff_ne, ne_eq, Int.ofNat_lt, Int.not_lt, Int.not_le, Int.ofNat_le, Nat.not_lt, Nat.not_le, gt_iff_lt, ge_iff_le] at h2
      apply G.skip
      apply G.seq
      have hle2 := heldSS_le hs3 qs
      have hs5 : 0 ≤ heldSS (heldAS n xs) qs := by omega
      have hs4 : heldSS (heldAS n xs) qs + (tot hs : Int) ≤ 1048576000 := by omega
      refine G.rg tab_ok ok_heldState (hk := ?_)
      apply G.seq
      apply G.seq
      refine G.rg tab_ok ok_heldState (hk := ?_)
      refine G.fg [1, 22] (hk := ?_)
      refine G.iff (h1 := fun h3 => ?_) (h2 := fun h3 => ?_)
      · try simp only [decide_eq_true_eq, decide_eq_false_iff_not, Bool.and_eq_true, Bool.and_eq_false_imp, Bool.or_eq_true, Bool.or_eq_false_iff, Bool.not_eq_true', Bool.not_eq_false', bne_iff_ne, beq_iff_eq, bne_eq_false_iff_eq, beq_eq_false_iff_ne, ne_eq, Int.ofNat_lt, Int.not_lt, Int.not_le, Int.ofNat_le, Nat.not_lt, Nat.not_le, gt_iff_lt, ge_iff_le] at h3
        apply G.seq
        refine G.rg tab_ok ok_heldState (hk := ?_)
        refine G.fin tab_ok (hr := ?_)
        simp only [oneOrTup]
        congr 1
        unfold heldSt
        rw [if_neg (by omega), if_neg (by omega), if_pos h3]
      · try simp only [decide_eq_true_eq, decide_eq_false_iff_not, Bool.and_eq_true, Bool.and_eq_false_imp, Bool.or_eq_true, Bool.or_eq_false_iff, Bool.not_eq_true', Bool.not_eq_false', bne_iff_ne, beq_iff_eq, bne_eq_false_iff_eq, beq_eq_false_iff_ne, ne_eq, Int.ofNat_lt, Int.not_lt, Int.not_le, Int.ofNat_le, Nat.not_lt, Nat.not_le, gt_iff_lt, ge_iff_le] at h3
        apply G.skip
        apply G.seq
        refine G.rg tab_ok ok_heldState (hk := ?_)
        refine G.fin tab_ok (hr := ?_)
        simp only [oneOrTup]
        congr 1
        unfold heldSt
        rw [if_neg (by omega), if_neg (by omega), if_neg (by omega)]
def r_heldState (xs0 : List A) (rr : A) : Prop := ∃ (xs : List AT) (qs : List (List Int)) (hs : List (List Int)) (t : Int) (n : Int), (0 ≤ n) ∧ (n + (tA xs : Int) + (tot qs : Int) + (tot hs : Int) ≤ 1048576000) ∧ (xs.length < 1099511627776) ∧ (qs.length < 1099511627776) ∧ (hs.length < 1099511627776) ∧ (LW qs) ∧ (LW hs) ∧ xs0 = [.agg [.row false 2 (xs.map av), .row false 1 (qs.map ivL), .row false 1 (hs.map ivL), .int .i64 t], .int .i64 n] ∧ rr = .int .i64 (heldSt n xs qs hs)
noncomputable def q_heldState : List A → Option A := kgr r_heldState
theorem k_heldState : KOk Try.prog (27, q_heldState) := kgr_ok (enters_of Try.func27 rfl rfl) (by rintro xs0 rr ⟨xs, qs, hs, t, n, hc1, hc2, hc3, hc4, hc5, hc6, hc7, rfl, rfl⟩; exact heldState_ac xs qs hs t n hc1 hc2 hc3 hc4 hc5 hc6 hc7)
theorem e_heldState : ∀ (xs : List AT) (qs : List (List Int)) (hs : List (List Int)) (t : Int) (n : Int), (0 ≤ n) → (n + (tA xs : Int) + (tot qs : Int) + (tot hs : Int) ≤ 1048576000) → (xs.length < 1099511627776) → (qs.length < 1099511627776) → (hs.length < 1099511627776) → (LW qs) → (LW hs) → q_heldState [.agg [.row false 2 (xs.map av), .row false 1 (qs.map ivL), .row false 1 (hs.map ivL), .int .i64 t], .int .i64 n] = some (.int .i64 (heldSt n xs qs hs)) := by
  intro xs qs hs t n hc1 hc2 hc3 hc4 hc5 hc6 hc7
  refine kgr_eq (fun xs0 rr r2 h h2 => ?_) ⟨xs, qs, hs, t, n, hc1, hc2, hc3, hc4, hc5, hc6, hc7, rfl, rfl⟩
  obtain ⟨xs1, qs1, hs1, t1, n1, _, _, _, _, _, _, _, e1, rfl⟩ := h; obtain ⟨xs2, qs2, hs2, t2, n2, _, _, _, _, _, _, _, e2, rfl⟩ := h2
  rw [e1] at e2
  simp only [List.cons.injEq, A.int.injEq, A.agg.injEq, A.row.injEq, av_inj, ivL_inj, true_and, and_true] at e2
  obtain ⟨⟨e3, e4, e5, e6⟩, e7⟩ := e2
  subst e3 e4 e5 e6 e7
  rfl

theorem en_markActorS : Enters Try.prog 88 := enters_of Try.func88 rfl rfl
theorem en_markIntSS : Enters Try.prog 50 := enters_of Try.func50 rfl rfl
theorem markState_mc (h : Heap) (xs : List AT) (qs : List (List Int)) (hs : List (List Int)) (t : Int) (n : Int) (hc1 : h = [some (2, xs.map oav), some (1, qs.map ovL), some (1, hs.map ovL)]) (hc2 : 0 ≤ n) (hc3 : n + (tA xs : Int) + (tot qs : Int) + (tot hs : Int) ≤ 1048576000) (hc4 : xs.length < 1099511627776) (hc5 : qs.length < 1099511627776) (hc6 : hs.length < 1099511627776) : MC Try.prog 26 h [.agg [.sl 0 0 xs.length, .sl 1 0 qs.length, .sl 2 0 hs.length, .int .i64 t], .int .i64 n] (.int .i64 (n + (tA xs : Int) + (tot qs : Int) + (tot hs : Int))) ([some (2, (mkAS n xs).map oav), some (1, (mkSS (n + (tA xs : Int)) qs).map ovL), some (1, (mkSS (n + (tA xs : Int) + (tot qs : Int)) hs).map ovL)]) := by
  subst hc1
  have hivl := ivL_eq
  have hro := roLL_ovL
  have hpov := pureLL_ovL
  have hnov := noLoanLL_ovL
  refine MC.of tab_ok Try.func26 rfl (Nat.le_of_ble_eq_true rfl) fun w0 S0 fs0 φ0 hφ0 hq0 => ?_
  change G _ _ ⟨[(0, .agg [.sl 0 0 xs.length, .sl 1 0 qs.length, .sl 2 0 hs.length, .int .i64 t]), (1, .int .i64 n)], _, 18⟩
  apply G.seq
  refine G.rg tab_ok (kof_nil _) (hk := ?_)
  apply G.seq
  refine G.rgN 3 tab_ok (kof_nil _) (hk := ?_)
  refine G.cf [0] en_markActorS (markActorS_mc _ xs n rfl (by omega) (by omega) hc4) (h := ?_)
  refine G.rgC tab_ok (kof_nil _) (hk := ?_)
  apply G.seq
  refine G.rgN 3 tab_ok (kof_nil _) (hk := ?_)
  refine G.cf [1] en_markIntSS (markIntSS_mc _ qs (n + (tA xs : Int)) rfl (by omega) (by omega) hc5) (h := ?_)
  refine G.rgC tab_ok (kof_nil _) (hk := ?_)
  apply G.seq
  refine G.rgN 3 tab_ok (kof_nil _) (hk := ?_)
  refine G.cf [2] en_markIntSS (markIntSS_mc _ hs (n + (tA xs : Int) + (tot qs : Int)) rfl (by omega) (by omega) hc6) (h := ?_)
  refine G.rgC tab_ok (kof_nil _) (hk := ?_)
  apply G.seq
  refine G.rg tab_ok (kof_nil _) (hk := ?_)
  refine G.finM (junk := [some (4, [[.sl 0 0 xs.length, .sl 1 0 qs.length, .sl 2 0 hs.length, .int .i64 t]])]) tab_ok (hr := ?_) (hh := ?_) (hq := ?_) (hl := ?_)
  · rfl
  · rfl
  · show (refLL _ _ && (refLL _ _ && (refLL _ _ && true))) = true
    rw [pureLL_ref (pureLL_oav _), pureLL_ref (pureLL_ovL _), pureLL_ref (pureLL_ovL _)]
    rfl
  · rw [hφ0]; exact Nat.le_refl _

end Go.Proofs.Yticgaflgbljhlaa.Ab
