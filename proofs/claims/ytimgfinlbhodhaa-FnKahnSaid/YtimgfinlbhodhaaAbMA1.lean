/- Walks of functions. -/
import Derived.Test.YtimgfinlbhodhaaAbMono2
import Derived.Test.YtimgfinlbhodhaaFwGj
namespace Go.Proofs.Ytimgfinlbhodhaa.Ab
open Go
set_option linter.unusedVariables false
set_option linter.unusedSimpArgs false
set_option maxHeartbeats 4000000
theorem ok_specIsPrefix : Kn.ok Try.prog (kof [(75, q_specIsStream), (76, q_l1Begins)]) := kof_cons k_specIsStream (kof_cons k_l1Begins ((kof_nil _)))
theorem specIsPrefix_ac (a : List Int) (b : List Int) (hc1 : a.length < 17592186044416) (hc2 : b.length < 17592186044416) : AC Try.prog 20 [.row false 1 (a.map iv), .row false 1 (b.map iv)] (.bool (pfxB a b)) := by
 have e_specIsStream := e_specIsStream
 have e_l1Begins := e_l1Begins
 refine AC.of tab_ok Try.func20 rfl (Nat.le_of_ble_eq_true rfl) fun w0 S0 => ?_
 change G _ _ ⟨[(0, .row false 1 (a.map iv)), (1, .row false 1 (b.map iv))], [], 16⟩
 apply G.seq
 refine G.rg tab_ok ok_specIsPrefix (hk := ?_)
 apply G.seq
 rcases (show strOk a = false ∨ (strOk a = true ∧ strOk b = false) ∨ (strOk a = true ∧ strOk b = true) by cases strOk a <;> cases strOk b <;> simp) with c1 | ⟨c1, c2⟩ | ⟨c1, c2⟩
 ·skip
  refine G.rgN 3 tab_ok ok_specIsPrefix (hk := ?_)
  refine G.rdC tab_ok ok_specIsPrefix (hk := ?_)
  refine G.fin tab_ok (hr := ?_)
  simp only [oneOrTup, pfxB, c1, Bool.false_and]
 ·skip
  refine G.rgN 3 tab_ok ok_specIsPrefix (hk := ?_)
  refine G.rdC tab_ok ok_specIsPrefix (hk := ?_)
  refine G.fin tab_ok (hr := ?_)
  simp only [oneOrTup, pfxB, c2, Bool.false_and, Bool.and_false]
 ·skip
  refine G.rgN 3 tab_ok ok_specIsPrefix (hk := ?_)
  refine G.rdC tab_ok ok_specIsPrefix (hk := ?_)
  refine G.fin tab_ok (hr := ?_)
  simp only [oneOrTup, pfxB, c1, c2, Bool.true_and]
def r_specIsPrefix (xs0 : List A) (rr : A) : Prop := ∃ (a : List Int) (b : List Int), (a.length < 17592186044416) ∧ (b.length < 17592186044416) ∧ xs0 = [.row false 1 (a.map iv), .row false 1 (b.map iv)] ∧ rr = .bool (pfxB a b)
noncomputable def q_specIsPrefix : List A → Option A := kgr r_specIsPrefix
theorem k_specIsPrefix : KOk Try.prog (20, q_specIsPrefix) := kgr_ok (enters_of Try.func20 rfl rfl) (by rintro xs0 rr ⟨a, b, hc1, hc2, rfl, rfl⟩; exact specIsPrefix_ac a b hc1 hc2)
theorem e_specIsPrefix : ∀ (a : List Int) (b : List Int), (a.length < 17592186044416) → (b.length < 17592186044416) → q_specIsPrefix [.row false 1 (a.map iv), .row false 1 (b.map iv)] = some (.bool (pfxB a b)) := by
 intro a b hc1 hc2
 refine kgr_eq (fun xs0 rr r2 h h2 => ?_) ⟨a, b, hc1, hc2, rfl, rfl⟩
 obtain ⟨a1, b1, _, _, e1, rfl⟩ := h; obtain ⟨a2, b2, _, _, e2, rfl⟩ := h2
 rw [e1] at e2
 simp only [List.cons.injEq, A.int.injEq, A.bool.injEq, A.agg.injEq, A.row.injEq, A.fn.injEq, A.rp.injEq, insv_inj, iv_inj, true_and, and_true] at e2
 simp [e2]
theorem ok_lawBelow : Kn.ok Try.prog (kof [(20, q_specIsPrefix)]) := kof_cons k_specIsPrefix ((kof_nil _))
theorem lawBelow_ac (gs : List (List Int)) (hs : List (List Int)) (hc1 : gs.length < 5864062014805) (hc2 : LW gs) (hc3 : hs.length < 5864062014805) (hc4 : LW hs) : AC Try.prog 26 [.row false 1 (gs.map ivL), .row false 1 (hs.map ivL)] (.bool (belowB gs hs)) := by
 have e_specIsPrefix := e_specIsPrefix
 have hivl := ivL_eq
 refine AC.of tab_ok Try.func26 rfl (Nat.le_of_ble_eq_true rfl) fun w0 S0 => ?_
 change G _ _ ⟨[(0, .row false 1 (gs.map ivL)), (1, .row false 1 (hs.map ivL))], [], 27⟩
 apply G.seq
 refine G.rg tab_ok ok_lawBelow (hk := ?_)
 apply G.seq
 apply G.seq
 refine G.rg tab_ok ok_lawBelow (hk := ?_)
 refine G.iff (h1 := fun h1 => ?_) (h2 := fun h1 => ?_)
 ·try simp only [zqz] at h1
  apply G.seq
  refine G.rg tab_ok ok_lawBelow (hk := ?_)
  refine G.fin tab_ok (hr := ?_)
  simp only [oneOrTup, belowB]
  congr 1
  rw [decide_eq_false (by omega), Bool.false_and]
 ·try simp only [zqz] at h1
  apply G.skip
  apply G.seq
  apply G.seq
  have hle1 : gs.length ≤ hs.length := by omega
  have hle2 : hs.length ≤ gs.length := by omega
  clear h1
  refine G.rg tab_ok ok_lawBelow (hk := ?_)
  apply G.block
  refine G.cn [0, 1, 12, 13] [] (h := ?_)
  refine G.loopX (fun j : Nat => ⟨[(0, .row false 1 (gs.map ivL)), (1, .row false 1 (hs.map ivL)), (12, .int .i64 gs.length), (13, .int .i64 j)], [], 27⟩) (fun j => j ≤ gs.length ∧ ∀ k < j, pfxB (gs.getD k default) (hs.getD k default) = true) (fun j => gs.length - j) (0) (⟨Nat.zero_le _, by omega⟩) (by simp) ?_
  intro j hj J hJ
  obtain ⟨hj, hall⟩ := hj
  have hw : IntKind.i64.wrap ((j : Int) + 1) = (j : Int) + 1 := wrap64 (by omega) (by omega)
  apply G.seq
  refine G.rg tab_ok ok_lawBelow (hk := ?_)
  apply G.seq
  refine G.iff (h1 := fun h2 => ?_) (h2 := fun h2 => ?_)
  ·try simp only [zqz] at h2
   apply G.skip
   apply G.seq
   apply G.block
   apply G.seq
   refine G.rg tab_ok ok_lawBelow (hk := ?_)
   apply G.seq
   have hjh : j < hs.length := by omega
   have hlg : (gs.getD j default).length < 17592186044416 := hc2 _ (getD_mem0 h2)
   have hlh : (hs.getD j default).length < 17592186044416 := hc4 _ (getD_mem0 hjh)
   refine G.dr mixed tab_ok ok_lawBelow [0, 1, 2, 3, 4, 5, 6, 7, 8, 9] (hk := ?_)
   refine G.fg [0, 1, 12, 13, 25] (hk := ?_)
   refine G.iff (h1 := fun h3 => ?_) (h2 := fun h3 => ?_)
   ·try simp only [zqz] at h3
    apply G.seq
    refine G.rg tab_ok ok_lawBelow (hk := ?_)
    refine G.fin tab_ok (hr := ?_)
    simp only [oneOrTup, belowB]
    congr 1
    rw [allPfx_no (p := pfxB) h2 h3, Bool.and_false]
   ·try simp only [zqz] at h3
    apply G.skip
    apply G.blk
    refine G.rg tab_ok ok_lawBelow (hk := ?_)
    refine G.cn [0, 1, 12, 13] [] (h := ?_)
    exact G.upto (hJ (j + 1) ⟨by omega, up_step hall h3⟩ (by omega)) (by simp)
  ·try simp only [zqz] at h2
   refine G.exit rfl ?_
   apply G.seq
   refine G.rg tab_ok ok_lawBelow (hk := ?_)
   refine G.fin tab_ok (hr := ?_)
   simp only [oneOrTup, belowB]
   congr 1
   rw [allPfx_yes (p := pfxB) (fun k hk => hall k (by omega)), decide_eq_true (by omega : gs.length = hs.length)]
   rfl
def r_lawBelow (xs0 : List A) (rr : A) : Prop := ∃ (gs : List (List Int)) (hs : List (List Int)), (gs.length < 5864062014805) ∧ (LW gs) ∧ (hs.length < 5864062014805) ∧ (LW hs) ∧ xs0 = [.row false 1 (gs.map ivL), .row false 1 (hs.map ivL)] ∧ rr = .bool (belowB gs hs)
noncomputable def q_lawBelow : List A → Option A := kgr r_lawBelow
theorem k_lawBelow : KOk Try.prog (26, q_lawBelow) := kgr_ok (enters_of Try.func26 rfl rfl) (by rintro xs0 rr ⟨gs, hs, hc1, hc2, hc3, hc4, rfl, rfl⟩; exact lawBelow_ac gs hs hc1 hc2 hc3 hc4)
theorem e_lawBelow : ∀ (gs : List (List Int)) (hs : List (List Int)), (gs.length < 5864062014805) → (LW gs) → (hs.length < 5864062014805) → (LW hs) → q_lawBelow [.row false 1 (gs.map ivL), .row false 1 (hs.map ivL)] = some (.bool (belowB gs hs)) := by
 intro gs hs hc1 hc2 hc3 hc4
 refine kgr_eq (fun xs0 rr r2 h h2 => ?_) ⟨gs, hs, hc1, hc2, hc3, hc4, rfl, rfl⟩
 obtain ⟨gs1, hs1, _, _, _, _, e1, rfl⟩ := h; obtain ⟨gs2, hs2, _, _, _, _, e2, rfl⟩ := h2
 rw [e1] at e2
 simp only [List.cons.injEq, A.int.injEq, A.agg.injEq, A.row.injEq, A.fn.injEq, ivL_inj, true_and, and_true] at e2
 obtain ⟨e3, e4⟩ := e2
 subst e3 e4
 rfl
theorem ok_makeEqual : Kn.ok Try.prog (kof [(91, q_l4Same)]) := kof_cons k_l4Same ((kof_nil _))
theorem makeEqual_ac (gs : List (List Int)) (hs : List (List Int)) (hc1 : gs.length < 5864062014805) (hc2 : LW gs) (hc3 : hs.length < 5864062014805) (hc4 : LW hs) : AC Try.prog 28 [.row false 1 (gs.map ivL), .row false 1 (hs.map ivL)] (.bool (decide (gs = hs))) := by
 have e_l4Same := e_l4Same
 refine AC.of tab_ok Try.func28 rfl (Nat.le_of_ble_eq_true rfl) fun w0 S0 => ?_
 change G _ _ ⟨[(0, .row false 1 (gs.map ivL)), (1, .row false 1 (hs.map ivL))], [], 8⟩
 apply G.seq
 refine G.rg tab_ok ok_makeEqual (hk := ?_)
 apply G.seq
 refine G.rg tab_ok ok_makeEqual (hk := ?_)
 refine G.fin tab_ok (hr := ?_)
 rfl
def r_makeEqual (xs0 : List A) (rr : A) : Prop := ∃ (gs : List (List Int)) (hs : List (List Int)), (gs.length < 5864062014805) ∧ (LW gs) ∧ (hs.length < 5864062014805) ∧ (LW hs) ∧ xs0 = [.row false 1 (gs.map ivL), .row false 1 (hs.map ivL)] ∧ rr = .bool (decide (gs = hs))
noncomputable def q_makeEqual : List A → Option A := kgr r_makeEqual
theorem k_makeEqual : KOk Try.prog (28, q_makeEqual) := kgr_ok (enters_of Try.func28 rfl rfl) (by rintro xs0 rr ⟨gs, hs, hc1, hc2, hc3, hc4, rfl, rfl⟩; exact makeEqual_ac gs hs hc1 hc2 hc3 hc4)
theorem e_makeEqual : ∀ (gs : List (List Int)) (hs : List (List Int)), (gs.length < 5864062014805) → (LW gs) → (hs.length < 5864062014805) → (LW hs) → q_makeEqual [.row false 1 (gs.map ivL), .row false 1 (hs.map ivL)] = some (.bool (decide (gs = hs))) := by
 intro gs hs hc1 hc2 hc3 hc4
 refine kgr_eq (fun xs0 rr r2 h h2 => ?_) ⟨gs, hs, hc1, hc2, hc3, hc4, rfl, rfl⟩
 obtain ⟨gs1, hs1, _, _, _, _, e1, rfl⟩ := h; obtain ⟨gs2, hs2, _, _, _, _, e2, rfl⟩ := h2
 rw [e1] at e2
 simp only [List.cons.injEq, A.int.injEq, A.agg.injEq, A.row.injEq, A.fn.injEq, ivL_inj, true_and, and_true] at e2
 obtain ⟨e3, e4⟩ := e2
 subst e3 e4
 rfl
end Go.Proofs.Ytimgfinlbhodhaa.Ab
