/- Walks of functions of the program, and the plain definitions. -/
import Derived.Test.YtimgfinlbhodhaaFwGe
import Derived.Test.YtimgfinlbhodhaaFwGf
namespace Go.Proofs.Ytimgfinlbhodhaa.Ab
open Go
set_option linter.unusedVariables false
set_option linter.unusedSimpArgs false
set_option maxHeartbeats 4000000
theorem eqSl_ac (a : List Int) (b : List Int) (hc1 : a.length < 17592186044416) (hc2 : b.length < 17592186044416) : AC Try.prog 142 [.row false 1 (a.map iv), .row false 1 (b.map iv)] (.bool (decide (a = b))) := by
 refine AC.of tab_ok Try.func142 rfl (Nat.le_of_ble_eq_true rfl) fun w0 S0 => ?_
 change G _ _ ⟨[(0, .row false 1 (a.map iv)), (1, .row false 1 (b.map iv))], [], 26⟩
 apply G.seq
 refine G.rg tab_ok (kof_nil _) (hk := ?_)
 apply G.seq
 apply G.seq
 refine G.rg tab_ok (kof_nil _) (hk := ?_)
 refine G.iff (h1 := fun h1 => ?_) (h2 := fun h1 => ?_)
 ·try simp only [zqz] at h1
  apply G.seq
  refine G.rg tab_ok (kof_nil _) (hk := ?_)
  refine G.fin tab_ok (hr := ?_)
  simp only [oneOrTup]
  congr 1
  symm
  rw [decide_eq_false_iff_not]
  intro e
  subst e
  exact h1 rfl
 ·try simp only [zqz] at h1
  apply G.skip
  apply G.seq
  apply G.seq
  have hle1 : a.length ≤ b.length := by omega
  have hle2 : b.length ≤ a.length := by omega
  clear h1
  refine G.rg tab_ok (kof_nil _) (hk := ?_)
  apply G.block
  refine G.cn [0, 1, 12, 13] [] (h := ?_)
  refine G.loopX (fun j : Nat => ⟨[(0, .row false 1 (a.map iv)), (1, .row false 1 (b.map iv)), (12, .int .i64 a.length), (13, .int .i64 j)], [], 26⟩) (fun j => j ≤ a.length ∧ ∀ k < j, a.getD k default = b.getD k default) (fun j => a.length - j) (0) (⟨Nat.zero_le _, by omega⟩) (by simp) ?_
  intro j hj J hJ
  obtain ⟨hj, hall⟩ := hj
  have hw : IntKind.i64.wrap ((j : Int) + 1) = (j : Int) + 1 := wrap64 (by omega) (by omega)
  apply G.seq
  refine G.rg tab_ok (kof_nil _) (hk := ?_)
  apply G.seq
  refine G.iff (h1 := fun h2 => ?_) (h2 := fun h2 => ?_)
  ·try simp only [zqz] at h2
   apply G.skip
   apply G.seq
   apply G.block
   apply G.seq
   refine G.rg tab_ok (kof_nil _) (hk := ?_)
   apply G.seq
   have hjb : j < b.length := by omega
   have hja : j < a.length := by omega
   refine G.dr mixed tab_ok (kof_nil _) [0, 1, 2, 3, 4, 5, 6, 7, 8] (hk := ?_)
   refine G.fg [0, 1, 12, 13, 24] (hk := ?_)
   refine G.iff (h1 := fun h3 => ?_) (h2 := fun h3 => ?_)
   ·try simp only [zqz] at h3
    apply G.seq
    refine G.rg tab_ok (kof_nil _) (hk := ?_)
    refine G.fin tab_ok (hr := ?_)
    simp only [oneOrTup]
    congr 1
    symm
    rw [decide_eq_false_iff_not]
    intro e
    subst e
    exact h3 rfl
   ·try simp only [zqz] at h3
    apply G.skip
    apply G.blk
    refine G.rg tab_ok (kof_nil _) (hk := ?_)
    refine G.cn [0, 1, 12, 13] [] (h := ?_)
    exact G.upto (hJ (j + 1) ⟨by omega, geq_upto hall h3⟩ (by omega)) (by simp)
  ·try simp only [zqz] at h2
   refine G.exit rfl ?_
   apply G.seq
   refine G.rg tab_ok (kof_nil _) (hk := ?_)
   refine G.fin tab_ok (hr := ?_)
   simp only [oneOrTup]
   congr 1
   symm
   rw [decide_eq_true_eq]
   exact geq_all (by omega) (fun k hk => hall k (by omega))
def r_eqSl (xs0 : List A) (rr : A) : Prop := ∃ (a : List Int) (b : List Int), (a.length < 17592186044416) ∧ (b.length < 17592186044416) ∧ xs0 = [.row false 1 (a.map iv), .row false 1 (b.map iv)] ∧ rr = .bool (decide (a = b))
noncomputable def q_eqSl : List A → Option A := kgr r_eqSl
theorem k_eqSl : KOk Try.prog (142, q_eqSl) := kgr_ok (enters_of Try.func142 rfl rfl) (by rintro xs0 rr ⟨a, b, hc1, hc2, rfl, rfl⟩; exact eqSl_ac a b hc1 hc2)
theorem e_eqSl : ∀ (a : List Int) (b : List Int), (a.length < 17592186044416) → (b.length < 17592186044416) → q_eqSl [.row false 1 (a.map iv), .row false 1 (b.map iv)] = some (.bool (decide (a = b))) := by
 intro a b hc1 hc2
 refine kgr_eq (fun xs0 rr r2 h h2 => ?_) ⟨a, b, hc1, hc2, rfl, rfl⟩
 obtain ⟨a1, b1, _, _, e1, rfl⟩ := h; obtain ⟨a2, b2, _, _, e2, rfl⟩ := h2
 rw [e1] at e2
 simp only [List.cons.injEq, A.int.injEq, A.bool.injEq, A.agg.injEq, A.row.injEq, A.fn.injEq, A.rp.injEq, insv_inj, iv_inj, true_and, and_true] at e2
 simp [e2]
theorem l1Begins_ac (a : List Int) (b : List Int) (hc1 : a.length < 17592186044416) (hc2 : b.length < 17592186044416) : AC Try.prog 76 [.row false 1 (a.map iv), .row false 1 (b.map iv)] (.bool (begB a b)) := by
 refine AC.of tab_ok Try.func76 rfl (Nat.le_of_ble_eq_true rfl) fun w0 S0 => ?_
 change G _ _ ⟨[(0, .row false 1 (a.map iv)), (1, .row false 1 (b.map iv))], [], 26⟩
 apply G.seq
 refine G.rg tab_ok (kof_nil _) (hk := ?_)
 apply G.seq
 apply G.seq
 refine G.rg tab_ok (kof_nil _) (hk := ?_)
 refine G.iff (h1 := fun h1 => ?_) (h2 := fun h1 => ?_)
 ·try simp only [zqz] at h1
  apply G.seq
  refine G.rg tab_ok (kof_nil _) (hk := ?_)
  refine G.fin tab_ok (hr := ?_)
  simp only [oneOrTup]
  congr 1
  exact (begB_long (by omega)).symm
 ·try simp only [zqz] at h1
  apply G.skip
  apply G.seq
  apply G.seq
  refine G.rg tab_ok (kof_nil _) (hk := ?_)
  apply G.block
  have hlab : a.length ≤ b.length := by omega
  refine G.cn [1, 12, 13, 14] [] (h := ?_)
  refine G.loopX (fun j : Nat => ⟨[(1, .row false 1 (b.map iv)), (12, .row false 1 (a.map iv)), (13, .int .i64 a.length), (14, .int .i64 j)], [], 26⟩) (fun j => j ≤ a.length ∧ ∀ k < j, b.getD k default = a.getD k default) (fun j => a.length - j) (0) (⟨Nat.zero_le _, by omega⟩) (by simp) ?_
  intro j hj J hJ
  obtain ⟨hj, hall⟩ := hj
  have hw : IntKind.i64.wrap ((j : Int) + 1) = (j : Int) + 1 := wrap64 (by omega) (by omega)
  apply G.seq
  refine G.rg tab_ok (kof_nil _) (hk := ?_)
  apply G.seq
  refine G.iff (h1 := fun h2 => ?_) (h2 := fun h2 => ?_)
  ·try simp only [zqz] at h2
   apply G.skip
   apply G.seq
   apply G.block
   apply G.seq
   refine G.rg tab_ok (kof_nil _) (hk := ?_)
   apply G.seq
   have hjb : j < b.length := by omega
   refine G.rg tab_ok (kof_nil _) (hk := ?_)
   refine G.fg [1, 12, 13, 14, 24] (hk := ?_)
   refine G.iff (h1 := fun h3 => ?_) (h2 := fun h3 => ?_)
   ·try simp only [zqz] at h3
    apply G.seq
    refine G.rg tab_ok (kof_nil _) (hk := ?_)
    refine G.fin tab_ok (hr := ?_)
    simp only [oneOrTup]
    congr 1
    exact (begB_no (by omega) h3).symm
   ·try simp only [zqz] at h3
    apply G.skip
    apply G.blk
    refine G.rg tab_ok (kof_nil _) (hk := ?_)
    refine G.cn [1, 12, 13, 14] [] (h := ?_)
    exact G.upto (hJ (j + 1) ⟨by omega, up_step hall h3⟩ (by omega)) (by simp)
  ·try simp only [zqz] at h2
   refine G.exit rfl ?_
   apply G.seq
   refine G.rg tab_ok (kof_nil _) (hk := ?_)
   refine G.fin tab_ok (hr := ?_)
   simp only [oneOrTup]
   congr 1
   exact (begB_yes hlab (fun k hk => hall k (by omega))).symm
def r_l1Begins (xs0 : List A) (rr : A) : Prop := ∃ (a : List Int) (b : List Int), (a.length < 17592186044416) ∧ (b.length < 17592186044416) ∧ xs0 = [.row false 1 (a.map iv), .row false 1 (b.map iv)] ∧ rr = .bool (begB a b)
noncomputable def q_l1Begins : List A → Option A := kgr r_l1Begins
theorem k_l1Begins : KOk Try.prog (76, q_l1Begins) := kgr_ok (enters_of Try.func76 rfl rfl) (by rintro xs0 rr ⟨a, b, hc1, hc2, rfl, rfl⟩; exact l1Begins_ac a b hc1 hc2)
theorem e_l1Begins : ∀ (a : List Int) (b : List Int), (a.length < 17592186044416) → (b.length < 17592186044416) → q_l1Begins [.row false 1 (a.map iv), .row false 1 (b.map iv)] = some (.bool (begB a b)) := by
 intro a b hc1 hc2
 refine kgr_eq (fun xs0 rr r2 h h2 => ?_) ⟨a, b, hc1, hc2, rfl, rfl⟩
 obtain ⟨a1, b1, _, _, e1, rfl⟩ := h; obtain ⟨a2, b2, _, _, e2, rfl⟩ := h2
 rw [e1] at e2
 simp only [List.cons.injEq, A.int.injEq, A.bool.injEq, A.agg.injEq, A.row.injEq, A.fn.injEq, A.rp.injEq, insv_inj, iv_inj, true_and, and_true] at e2
 simp [e2]
theorem ok_implIsPrefix : Kn.ok Try.prog (kof [(97, q_implIsStream), (142, q_eqSl)]) := kof_cons k_implIsStream (kof_cons k_eqSl ((kof_nil _)))
theorem implIsPrefix_ac (a : List Int) (b : List Int) (hc1 : a.length < 17592186044416) (hc2 : b.length < 17592186044416) : AC Try.prog 136 [.row false 1 (a.map iv), .row false 1 (b.map iv)] (.bool (pfxB a b)) := by
 have e_implIsStream := e_implIsStream
 have e_eqSl := e_eqSl
 have hft : (false == true) = false := rfl
 have htf : (true == false) = false := rfl
 refine AC.of tab_ok Try.func136 rfl (Nat.le_of_ble_eq_true rfl) fun w0 S0 => ?_
 change G _ _ ⟨[(0, .row false 1 (a.map iv)), (1, .row false 1 (b.map iv))], [], 26⟩
 apply G.seq
 refine G.rg tab_ok ok_implIsPrefix (hk := ?_)
 apply G.seq
 rcases (show strOk a = false ∨ (strOk a = true ∧ strOk b = false) ∨ (strOk a = true ∧ strOk b = true ∧ ¬ (a.length : Int) ≤ (b.length : Int)) ∨ (strOk a = true ∧ strOk b = true ∧ (a.length : Int) ≤ (b.length : Int)) by cases strOk a <;> cases strOk b <;> simp; omega) with c1 | ⟨c1, c2⟩ | ⟨c1, c2, c3⟩ | ⟨c1, c2, c3⟩
 ·skip
  refine G.rgN 3 tab_ok ok_implIsPrefix (hk := ?_)
  refine G.rdC tab_ok ok_implIsPrefix (hk := ?_)
  refine G.fin tab_ok (hr := ?_)
  simp only [oneOrTup, pfxB, c1, Bool.false_and]
 ·skip
  refine G.rgN 3 tab_ok ok_implIsPrefix (hk := ?_)
  refine G.rdC tab_ok ok_implIsPrefix (hk := ?_)
  refine G.fin tab_ok (hr := ?_)
  simp only [oneOrTup, pfxB, c2, Bool.false_and, Bool.and_false]
 ·skip
  refine G.rgN 3 tab_ok ok_implIsPrefix (hk := ?_)
  refine G.rdC tab_ok ok_implIsPrefix (hk := ?_)
  refine G.fin tab_ok (hr := ?_)
  simp only [oneOrTup, pfxB, begB_long (a := a) (b := b) (by omega), Bool.and_false]
 ·skip
  have c4 : a.length ≤ b.length := by omega
  have hmin : min a.length b.length = a.length := by omega
  have htk : List.take a.length (b.map iv) = (b.take a.length).map iv := (List.map_take ..).symm
  have hlt : (b.take a.length).length < 17592186044416 := by rw [List.length_take]; omega
  refine G.rgN 3 tab_ok ok_implIsPrefix (hk := ?_)
  refine G.rdC tab_ok ok_implIsPrefix (hk := ?_)
  refine G.fin tab_ok (hr := ?_)
  simp only [oneOrTup]
  congr 1
  rw [pfxB_cmp c1 c2 c4]
def r_implIsPrefix (xs0 : List A) (rr : A) : Prop := ∃ (a : List Int) (b : List Int), (a.length < 17592186044416) ∧ (b.length < 17592186044416) ∧ xs0 = [.row false 1 (a.map iv), .row false 1 (b.map iv)] ∧ rr = .bool (pfxB a b)
noncomputable def q_implIsPrefix : List A → Option A := kgr r_implIsPrefix
theorem k_implIsPrefix : KOk Try.prog (136, q_implIsPrefix) := kgr_ok (enters_of Try.func136 rfl rfl) (by rintro xs0 rr ⟨a, b, hc1, hc2, rfl, rfl⟩; exact implIsPrefix_ac a b hc1 hc2)
theorem e_implIsPrefix : ∀ (a : List Int) (b : List Int), (a.length < 17592186044416) → (b.length < 17592186044416) → q_implIsPrefix [.row false 1 (a.map iv), .row false 1 (b.map iv)] = some (.bool (pfxB a b)) := by
 intro a b hc1 hc2
 refine kgr_eq (fun xs0 rr r2 h h2 => ?_) ⟨a, b, hc1, hc2, rfl, rfl⟩
 obtain ⟨a1, b1, _, _, e1, rfl⟩ := h; obtain ⟨a2, b2, _, _, e2, rfl⟩ := h2
 rw [e1] at e2
 simp only [List.cons.injEq, A.int.injEq, A.bool.injEq, A.agg.injEq, A.row.injEq, A.fn.injEq, A.rp.injEq, insv_inj, iv_inj, true_and, and_true] at e2
 simp [e2]
theorem ok_l4Tokens : Kn.ok Try.prog (kof [(154, q_l1Copy)]) := kof_cons k_l1Copy ((kof_nil _))
theorem l4Tokens_ac (ps : List PG) (ks : List LK) (hc1 : netOk ps ks = true) : AC Try.prog 89 [.agg [.row false 3 (ps.map pv), .row false 5 (ks.map kv)]] (.row true 1 ((tkL ks).map ovL)) := by
 have e_l1Copy := e_l1Copy
 have hivl := ivL_eq
 have hro := roLL_ovL
 have hpov := pureLL_ovL
 have hnov := noLoanLL_ovL
 have hsm := net_small hc1
 have hp12 := (netOk_w hc1).pl
 have hk30 := (netOk_w hc1).kl
 refine AC.of tab_ok Try.func89 rfl (Nat.le_of_ble_eq_true rfl) fun w0 S0 => ?_
 change G _ _ ⟨[(0, .agg [.row false 3 (ps.map pv), .row false 5 (ks.map kv)])], [], 22⟩
 apply G.seq
 refine G.rg tab_ok ok_l4Tokens (hk := ?_)
 apply G.seq
 refine G.rg tab_ok ok_l4Tokens (hk := ?_)
 apply G.seq
 apply G.seq
 refine G.rg tab_ok ok_l4Tokens (hk := ?_)
 apply G.block
 refine G.nm [3, 8, 9, 10] (h := ?_)
 refine G.loopX (fun j : Nat => ⟨[(3, .sl 0 0 j), (8, .row false 5 (ks.map kv)), (9, .int .i64 ks.length), (10, .int .i64 j)], [some (1, ((tkL ks).take j).map ovL)], 22⟩) (fun j => j ≤ ks.length) (fun j => ks.length - j) (0) (Nat.zero_le _) (by simp) ?_
 intro j hj J hJ
 have hw : IntKind.i64.wrap ((j : Int) + 1) = (j : Int) + 1 := wrap64 (by omega) (by omega)
 apply G.seq
 refine G.rg tab_ok ok_l4Tokens (hk := ?_)
 apply G.seq
 refine G.iff (h1 := fun h1 => ?_) (h2 := fun h1 => ?_)
 ·try simp only [zqz] at h1
  apply G.skip
  apply G.seq
  apply G.block
  apply G.seq
  have hmj : min j (tkL ks).length = j := by rw [tkL_len]; omega
  have htk1 : List.take j (((tkL ks).take j).map ovL) = ((tkL ks).take j).map ovL := List.take_of_length_le (by simp; omega)
  have htj := tkL_snoc (ks := ks) (j := j) (by omega)
  have hlr : (ks.getD j default).tk.length ≤ 1048576 := by have := hsm.2 j (by omega); omega
  have hq1 : ((j + 1 : Nat) : Int) ≤ 4611686018427387904 := by omega
  have hq2 : (j + 1) * 24 ≤ 70368744177664 := by omega
  refine G.rg tab_ok ok_l4Tokens (hk := ?_)
  refine G.rg tab_ok ok_l4Tokens (hk := ?_)
  refine G.lastE 4 0 2 (f := ovL) (l := (tkL ks).take j) ((ks.getD j default).tk) rfl rfl rfl (by decide) (by simp) (pureLL_iv _) rfl ?_
  rw [htj]
  apply G.blk
  refine G.rg tab_ok ok_l4Tokens (hk := ?_)
  refine G.nm [3, 8, 9, 10] (h := ?_)
  exact G.upto (hJ (j + 1) (by omega) (by omega)) (by simp)
 ·try simp only [zqz] at h1
  refine G.exit rfl ?_
  apply G.seq
  refine G.rg tab_ok ok_l4Tokens (hk := ?_)
  obtain rfl : j = ks.length := by omega
  have hft : List.take ks.length (tkL ks) = tkL ks := List.take_of_length_le (by rw [tkL_len]; exact Nat.le_refl _)
  have hft2 : List.take ks.length ((tkL ks).map ovL) = (tkL ks).map ovL := List.take_of_length_le (by simp [tkL_len])
  rw [hft]
  have hl1 : ks.length ≤ (tkL ks).length := by rw [tkL_len]; exact Nat.le_refl _
  refine G.fin tab_ok (hr := ?_)
  rfl
def r_l4Tokens (xs0 : List A) (rr : A) : Prop := ∃ (ps : List PG) (ks : List LK), (netOk ps ks = true) ∧ xs0 = [.agg [.row false 3 (ps.map pv), .row false 5 (ks.map kv)]] ∧ rr = .row true 1 ((tkL ks).map ovL)
noncomputable def q_l4Tokens : List A → Option A := kgr r_l4Tokens
theorem k_l4Tokens : KOk Try.prog (89, q_l4Tokens) := kgr_ok (enters_of Try.func89 rfl rfl) (by rintro xs0 rr ⟨ps, ks, hc1, rfl, rfl⟩; exact l4Tokens_ac ps ks hc1)
theorem e_l4Tokens : ∀ (ps : List PG) (ks : List LK), (netOk ps ks = true) → q_l4Tokens [.agg [.row false 3 (ps.map pv), .row false 5 (ks.map kv)]] = some (.row true 1 ((tkL ks).map ovL)) := by
 intro ps ks hc1
 refine kgr_eq (fun xs0 rr r2 h h2 => ?_) ⟨ps, ks, hc1, rfl, rfl⟩
 obtain ⟨ps1, ks1, _, e1, rfl⟩ := h; obtain ⟨ps2, ks2, _, e2, rfl⟩ := h2
 rw [e1] at e2
 simp only [List.cons.injEq, A.int.injEq, A.bool.injEq, A.agg.injEq, A.row.injEq, pv_inj, kv_inj, true_and, and_true] at e2
 obtain ⟨e3, e4⟩ := e2
 subst e3 e4
 rfl
end Go.Proofs.Ytimgfinlbhodhaa.Ab
