/- Walks of functions of the program, and the plain definitions. -/
import Derived.Test.YtimgfinlbhodhaaFwGe
import Derived.Test.YtimgfinlbhodhaaFwGf
namespace Go.Proofs.Ytimgfinlbhodhaa.Ab
open Go
set_option linter.unusedVariables false
set_option linter.unusedSimpArgs false
set_option maxHeartbeats 4000000
theorem eqSl_ac (a : List Int) (b : List Int) (hc1 : a.length < 17592186044416) (hc2 : b.length < 17592186044416) : AC Try.prog 142 [.row false 1 (a.map iv), .row false 1 (b.map iv)] (.bool (decide (a = b))) := by
 refine AC.of tab_ok Try.func142 rfl (Nat.le_of_ble_eq_true rfl) fun w0 S0 => ?_
 change G _ _ ⟨[(0, .row false 1 (a.map iv)), (1, .row false 1 (b.map iv))], [], 26⟩
 apply G.seq
 refine G.rg tab_ok (kof_nil _) (hk := ?_)
 apply G.seq
 apply G.seq
 refine G.rg tab_ok (kof_nil _) (hk := ?_)
 refine G.iff (h1 := fun h1 => ?_) (h2 := fun h1 => ?_)
 ·try simp only [zqz] at h1
  apply G.seq
  refine G.rg tab_ok (kof_nil _) (hk := ?_)
  refine G.fin tab_ok (hr := ?_)
  simp only [oneOrTup]
  congr 1
  symm
  rw [decide_eq_false_iff_not]
  intro e
  subst e
  exact h1 rfl
 ·try simp only [zqz] at h1
  apply G.skip
  apply G.seq
  apply G.seq
  have hle1 : a.length ≤ b.length := by omega
  have hle2 : b.length ≤ a.length := by omega
  clear h1
  refine G.rg tab_ok (kof_nil _) (hk := ?_)
  apply G.block
  refine G.cn [0, 1, 12, 13] [] (h := ?_)
  refine G.loopX (fun j : Nat => ⟨[(0, .row false 1 (a.map iv)), (1, .row false 1 (b.map iv)), (12, .int .i64 a.length), (13, .int .i64 j)], [], 26⟩) (fun j => j ≤ a.length ∧ ∀ k < j, a.getD k default = b.getD k default) (fun j => a.length - j) (0) (⟨Nat.zero_le _, by omega⟩) (by simp) ?_
  intro j hj J hJ
  obtain ⟨hj, hall⟩ := hj
  have hw : IntKind.i64.wrap ((j : Int) + 1) = (j : Int) + 1 := wrap64 (by omega) (by omega)
  apply G.seq
  refine G.rg tab_ok (kof_nil _) (hk := ?_)
  apply G.seq
  refine G.iff (h1 := fun h2 => ?_) (h2 := fun h2 => ?_)
  ·try simp only [zqz] at h2
   apply G.skip
   apply G.seq
   apply G.block
   apply G.seq
   refine G.rg tab_ok (kof_nil _) (hk := ?_)
   apply G.seq
   have hjb : j < b.length := by omega
   have hja : j < a.length := by omega
   refine G.dr mixed tab_ok (kof_nil _) [0, 1, 2, 3, 4, 5, 6, 7, 8] (hk := ?_)
   refine G.fg [0, 1, 12, 13, 24] (hk := ?_)
   refine G.iff (h1 := fun h3 => ?_) (h2 := fun h3 => ?_)
   ·try simp only [zqz] at h3
    apply G.seq
    refine G.rg tab_ok (kof_nil _) (hk := ?_)
    refine G.fin tab_ok (hr := ?_)
    simp only [oneOrTup]
    congr 1
    symm
    rw [decide_eq_false_iff_not]
    intro e
    subst e
    exact h3 rfl
   ·try simp only [zqz] at h3
    apply G.skip
    apply G.blk
    refine G.rg tab_ok (kof_nil _) (hk := ?_)
    refine G.cn [0, 1, 12, 13] [] (h := ?_)
    exact G.upto (hJ (j + 1) ⟨by omega, geq_upto hall h3⟩ (by omega)) (by simp)
  ·try simp only [zqz] at h2
   refine G.exit rfl ?_
   apply G.seq
   refine G.rg tab_ok (kof_nil _) (hk := ?_)
   refine G.fin tab_ok (hr := ?_)
   simp only [oneOrTup]
   congr 1
   symm
   rw [decide_eq_true_eq]
   exact geq_all (by omega) (fun k hk => hall k (by omega))
def r_eqSl (xs0 : List A) (rr : A) : Prop := ∃ (a : List Int) (b : List Int), (a.length < 17592186044416) ∧ (b.length < 17592186044416) ∧ xs0 = [.row false 1 (a.map iv), .row false 1 (b.map iv)] ∧ rr = .bool (decide (a = b))
noncomputable def q_eqSl : List A → Option A := kgr r_eqSl
theorem k_eqSl : KOk Try.prog (142, q_eqSl) := kgr_ok (enters_of Try.func142 rfl rfl) (by rintro xs0 rr ⟨a, b, hc1, hc2, rfl, rfl⟩; exact eqSl_ac a b hc1 hc2)
theorem e_eqSl : ∀ (a : List Int) (b : List Int), (a.length < 17592186044416) → (b.length < 17592186044416) → q_eqSl [.row false 1 (a.map iv), .row false 1 (b.map iv)] = some (.bool (decide (a = b))) := by
 intro a b hc1 hc2
 refine kgr_eq (fun xs0 rr r2 h h2 => ?_) ⟨a, b, hc1, hc2, rfl, rfl⟩
 obtain ⟨a1, b1, _, _, e1, rfl⟩ := h; obtain ⟨a2, b2, _, _, e2, rfl⟩ := h2
 rw [e1] at e2
 simp only [List.cons.injEq, A.int.injEq, A.bool.injEq, A.agg.injEq, A.row.injEq, A.fn.injEq, A.rp.injEq, insv_inj, iv_inj, true_and, and_true] at e2
 simp [e2]
theorem l1Begins_ac (a : List Int) (b : List Int) (hc1 : a.length < 17592186044416) (hc2 : b.length < 17592186044416) : AC Try.prog 76 [.row false 1 (a.map iv), .row false 1 (b.map iv)] (.bool (begB a b)) := by
 refine AC.of tab_ok Try.func76 rfl (Nat.le_of_ble_eq_true rfl) fun w0 S0 => ?_
 change G _ _ ⟨[(0, .row false 1 (a.map iv)), (1, .row false 1 (b.map iv))], [], 26⟩
 apply G.seq
 refine G.rg tab_ok (kof_nil _) (hk := ?_)
 apply G.seq
 apply G.seq
 refine G.rg tab_ok (kof_nil _) (hk := ?_)
 refine G.iff (h1 := fun h1 => ?_) (h2 := fun h1 => ?_)
 ·try simp only [zqz] at h1
  apply G.seq
  refine G.rg tab_ok (kof_nil _) (hk := ?_)
  refine G.fin tab_ok (hr := ?_)
  simp only [oneOrTup]
  congr 1
  exact (begB_long (by omega)).symm
 ·try simp only [zqz] at h1
  apply G.skip
  apply G.seq
  apply G.seq
  refine G.rg tab_ok (kof_nil _) (hk := ?_)
  apply G.block
  have hlab : a.length ≤ b.length := by omega
  refine G.cn [1, 12, 13, 14] [] (h := ?_)
  refine G.loopX (fun j : Nat => ⟨[(1, .row false 1 (b.map iv)), (12, .row false 1 (a.map iv)), (13, .int .i64 a.length), (14, .int .i64 j)], [], 26⟩) (fun j => j ≤ a.length ∧ ∀ k < j, b.getD k default = a.getD k default) (fun j => a.length - j) (0) (⟨Nat.zero_le _, by omega⟩) (by simp) ?_
  intro j hj J hJ
  obtain ⟨hj, hall⟩ := hj
  have hw : IntKind.i64.wrap ((j : Int) + 1) = (j : Int) + 1 := wrap64 (by omega) (by omega)
  apply G.seq
  refine G.rg tab_ok (kof_nil _) (hk := ?_)
  apply G.seq
  refine G.iff (h1 := fun h2 => ?_) (h2 := fun h2 => ?_)
  ·try simp only [zqz] at h2
   apply G.skip
   apply G.seq
   apply G.block
   apply G.seq
   refine G.rg tab_ok (kof_nil _) (hk := ?_)
   apply G.seq
   have hjb : j < b.length := by omega
   refine G.rg tab_ok (kof_nil _) (hk := ?_)
   refine G.fg [1, 12, 13, 14, 24] (hk := ?_)
   refine G.iff (h1 := fun h3 => ?_) (h2 := fun h3 => ?_)
   ·try simp only [zqz] at h3
    apply G.seq
    refine G.rg tab_ok (kof_nil _) (hk := ?_)
    refine G.fin tab_ok (hr := ?_)
    simp only [oneOrTup]
    congr 1
    exact (begB_no (by omega) h3).symm
   ·try simp only [zqz] at h3
    apply G.skip
    apply G.blk
    refine G.rg tab_ok (kof_nil _) (hk := ?_)
    refine G.cn [1, 12, 13, 14] [] (h := ?_)
    exact G.upto (hJ (j + 1) ⟨by omega, up_step hall h3⟩ (by omega)) (by simp)
  ·try simp only [zqz] at h2
   refine G.exit rfl ?_
   apply G.seq
   refine G.rg tab_ok (kof_nil _) (hk := ?_)
   refine G.fin tab_ok (hr := ?_)
   simp only [oneOrTup]
   congr 1
   exact (begB_yes hlab (fun k hk => hall k (by omega))).symm
def r_l1Begins (xs0 : List A) (rr : A) : Prop := ∃ (a : List Int) (b : List Int), (a.length < 17592186044416) ∧ (b.length < 17592186044416) ∧ xs0 = [.row false 1 (a.map iv), .row false 1 (b.map iv)] ∧ rr = .bool (begB a b)
noncomputable def q_l1Begins : List A → Option A := kgr r_l1Begins
theorem k_l1Begins : KOk Try.prog (76, q_l1Begins) := kgr_ok (enters_of Try.func76 rfl rfl) (by rintro xs0 rr ⟨a, b, hc1, hc2, rfl, rfl⟩; exact l1Begins_ac a b hc1 hc2)
theorem e_l1Begins : ∀ (a : List Int) (b : List Int), (a.length < 17592186044416) → (b.length < 17592186044416) → q_l1Begins [.row false 1 (a.map iv), .row false 1 (b.map iv)] = some (.bool (begB a b)) := by
 intro a b hc1 hc2
 refine kgr_eq (fun xs0 rr r2 h h2 => ?_) ⟨a, b, hc1, hc2, rfl, rfl⟩
 obtain ⟨a1, b1, _, _, e1, rfl⟩ := h; obtain ⟨a2, b2, _, _, e2, rfl⟩ := h2
 rw [e1] at e2
 simp only [List.cons.injEq, A.int.injEq, A.bool.injEq, A.agg.injEq, A.row.injEq, A.fn.injEq, A.rp.injEq, insv_inj, iv_inj, true_and, and_true] at e2
 simp [e2]
theorem ok_implIsPrefix : Kn.ok Try.prog (kof [(97, q_implIsStream), (142, q_eqSl)]) := kof_cons k_implIsStream (kof_cons k_eqSl ((kof_nil _)))
theorem implIsPrefix_ac (a : List Int) (b : List Int) (hc1 : a.length < 17592186044416) (hc2 : b.length < 17592186044416) : AC Try.prog 136 [.row false 1 (a.map iv), .row false 1 (b.map iv)] (.bool (pfxB a b)) := by
 have e_implIsStream := e_implIsStream
 have e_eqSl := e_eqSl
 have hft : (false == true) = false := rfl
 have htf : (true == false) = false := rfl
 refine AC.of tab_ok Try.func136 rfl (Nat.le_of_ble_eq_true rfl) fun w0 S0 => ?_
 change G _ _ ⟨[(0, .row false 1 (a.map iv)), (1, .row false 1 (b.map iv))], [], 26⟩
 apply G.seq
 refine G.rg tab_ok ok_implIsPrefix (hk := ?_)
 apply G.seq
 rcases (show strOk a = false ∨ (strOk a = true ∧ strOk b = false) ∨ (strOk a = true ∧ strOk b = true ∧ ¬ (a.length : Int) ≤ (b.length : Int)) ∨ (strOk a = true ∧ strOk b = true ∧ (a.length : Int) ≤ (b.length : Int)) by cases strOk a <;> cases strOk b <;> simp; omega) with c1 | ⟨c1, c2⟩ | ⟨c1, c2, c3⟩ | ⟨c1, c2, c3⟩
 ·skip
  refine G.rgN 3 tab_ok ok_implIsPrefix (hk := ?_)
  refine G.rdC tab_ok ok_implIsPrefix (hk := ?_)
  refine G.fin tab_ok (hr := ?_)
  simp only [oneOrTup, pfxB, c1, Bool.false_and]
 ·skip
  refine G.rgN 3 tab_ok ok_implIsPrefix (hk := ?_)
  refine G.rdC tab_ok ok_implIsPrefix (hk := ?_)
  refine G.fin tab_ok (hr := ?_)
  simp only [oneOrTup, pfxB, c2, Bool.false_and, Bool.and_false]
 ·skip
  refine G.rgN 3 tab_ok ok_implIsPrefix (hk := ?_)
  refine G.rdC tab_ok ok_implIsPrefix (hk := ?_)
  refine G.fin tab_ok (hr := ?_)
  simp only [oneOrTup, pfxB, begB_long (a := a) (b := b) (by omega), Bool.and_false]
 ·skip
  have c4 : a.length ≤ b.length := by omega
  have hmin : min a.length b.length = a.length := by omega
  have htk : List.take a.length (b.map iv) = (b.take a.length).map iv := (List.map_take ..).symm
  have hlt : (b.take a.length).length < 17592186044416 := by rw [List.length_take]; omega
  refine G.rgN 3 tab_ok ok_implIsPrefix (hk := ?_)
  refine G.rdC tab_ok ok_implIsPrefix (hk := ?_)
  refine G.fin tab_ok (hr := ?_)
  simp only [oneOrTup]
  congr 1
  rw [pfxB_cmp c1 c2 c4]
def r_implIsPrefix (xs0 : List A) (rr : A) : Prop := ∃ (a : List Int) (b : List Int), (a.length < 17592186044416) ∧ (b.length < 17592186044416) ∧ xs0 = [.row false 1 (a.map iv), .row false 1 (b.map iv)] ∧ rr = .bool (pfxB a b)
noncomputable def q_implIsPrefix : List A → Option A := kgr r_implIsPrefix
theorem k_implIsPrefix : KOk Try.prog (136, q_implIsPrefix) := kgr_ok (enters_of Try.func136 rfl rfl) (by rintro xs0 rr ⟨a, b, hc1, hc2, rfl, rfl⟩; exact implIsPrefix_ac a b hc1 hc2)
theorem e_implIsPrefix : ∀ (a : List Int) (b : List Int), (a.length < 17592186044416) → (b.length < 17592186044416) → q_implIsPrefix [.row false 1 (a.map iv), .row false 1 (b.map iv)] = some (.bool (pfxB a b)) := by
 intro a b hc1 hc2
 refine kgr_eq (fun xs0 rr r2 h h2 => ?_) ⟨a, b, hc1, hc2, rfl, rfl⟩
 obtain ⟨a1, b1, _, _, e1, rfl⟩ := h; obtain ⟨a2, b2, _, _, e2, rfl⟩ := h2
 rw [e1] at e2
 simp only [List.cons.injEq, A.int.injEq, A.bool.injEq, A.agg.injEq, A.row.injEq, A.fn.injEq, A.rp.injEq, insv_inj, iv_inj, true_and, and_true] at e2
 simp [e2]
-- not in this seat: l3Has
theorem linkTo1_ac (fr : Int) (ou : Int) (to : Int) (ip : Int) (tk : List Int) (p : Int) (q : Int)  : AC Try.prog 79 [.agg [.int .i64 fr, .int .i64 ou, .int .i64 to, .int .i64 ip, .row false 1 (tk.map iv)], .rp 1 [[.int .i64 p]] 0 0, .rp 1 [[.int .i64 q]] 0 0] (.bool (isToC p q ⟨fr, ou, to, ip, tk⟩)) := by
 refine AC.of tab_ok Try.func79 rfl (Nat.le_of_ble_eq_true rfl) fun w0 S0 => ?_
 change G _ _ ⟨[(0, .agg [.int .i64 fr, .int .i64 ou, .int .i64 to, .int .i64 ip, .row false 1 (tk.map iv)]), (1, .rp 1 [[.int .i64 p]] 0 0), (2, .rp 1 [[.int .i64 q]] 0 0)], [], 19⟩
 apply G.seq
 refine G.rg tab_ok (kof_nil _) (hk := ?_)
 apply G.seq
 refine G.rg tab_ok (kof_nil _) (hk := ?_)
 refine G.fin tab_ok (hr := ?_)
 rfl
def r_linkTo1 (xs0 : List A) (rr : A) : Prop := ∃ (fr : Int) (ou : Int) (to : Int) (ip : Int) (tk : List Int) (p : Int) (q : Int), xs0 = [.agg [.int .i64 fr, .int .i64 ou, .int .i64 to, .int .i64 ip, .row false 1 (tk.map iv)], .rp 1 [[.int .i64 p]] 0 0, .rp 1 [[.int .i64 q]] 0 0] ∧ rr = .bool (isToC p q ⟨fr, ou, to, ip, tk⟩)
noncomputable def q_linkTo1 : List A → Option A := kgr r_linkTo1
theorem k_linkTo1 : KOk Try.prog (79, q_linkTo1) := kgr_ok (enters_of Try.func79 rfl rfl) (by rintro xs0 rr ⟨fr, ou, to, ip, tk, p, q, rfl, rfl⟩; exact linkTo1_ac fr ou to ip tk p q)
theorem e_linkTo1 : ∀ (fr : Int) (ou : Int) (to : Int) (ip : Int) (tk : List Int) (p : Int) (q : Int), q_linkTo1 [.agg [.int .i64 fr, .int .i64 ou, .int .i64 to, .int .i64 ip, .row false 1 (tk.map iv)], .rp 1 [[.int .i64 p]] 0 0, .rp 1 [[.int .i64 q]] 0 0] = some (.bool (isToC p q ⟨fr, ou, to, ip, tk⟩)) := by
 intro fr ou to ip tk p q
 refine kgr_eq (fun xs0 rr r2 h h2 => ?_) ⟨fr, ou, to, ip, tk, p, q, rfl, rfl⟩
 obtain ⟨fr1, ou1, to1, ip1, tk1, p1, q1, e1, rfl⟩ := h; obtain ⟨fr2, ou2, to2, ip2, tk2, p2, q2, e2, rfl⟩ := h2
 rw [e1] at e2
 simp only [List.cons.injEq, A.int.injEq, A.agg.injEq, A.row.injEq, A.rp.injEq, iv_inj, true_and, and_true] at e2
 simp [e2]
theorem ok_idxTo : Kn.ok Try.prog (kof [(79, q_linkTo1)]) := kof_cons k_linkTo1 ((kof_nil _))
theorem idxTo_ac (ks : List LK) (p : Int) (q : Int) (hc1 : ks.length < 2513169434844) : AC Try.prog 149 [.row false 5 (ks.map kv), .fn 79 [.rp 1 [[.int .i64 p]] 0 0, .rp 1 [[.int .i64 q]] 0 0]] (.int .i64 (gidx (isToC p q) ks)) := by
 have e_linkTo1 := e_linkTo1
 refine AC.of tab_ok Try.func149 rfl (Nat.le_of_ble_eq_true rfl) fun w0 S0 => ?_
 change G _ _ ⟨[(0, .row false 5 (ks.map kv)), (1, .fn 79 [.rp 1 [[.int .i64 p]] 0 0, .rp 1 [[.int .i64 q]] 0 0])], [], 19⟩
 apply G.seq
 refine G.rg tab_ok ok_idxTo (hk := ?_)
 apply G.seq
 apply G.seq
 refine G.rg tab_ok ok_idxTo (hk := ?_)
 apply G.block
 refine G.cn [0, 1, 7, 8] [] (h := ?_)
 refine G.loopX (fun j : Nat => ⟨[(0, .row false 5 (ks.map kv)), (1, .fn 79 [.rp 1 [[.int .i64 p]] 0 0, .rp 1 [[.int .i64 q]] 0 0]), (7, .int .i64 ks.length), (8, .int .i64 j)], [], 19⟩) (fun j => j ≤ ks.length ∧ ∀ k < j, (isToC p q) (ks.getD k default) = false) (fun j => ks.length - j) (0) (⟨Nat.zero_le _, by omega⟩) (rfl) ?_
 intro j hj J hJ
 obtain ⟨hj, hall⟩ := hj
 have hw : IntKind.i64.wrap ((j : Int) + 1) = (j : Int) + 1 := wrap64 (by omega) (by omega)
 apply G.seq
 refine G.rg tab_ok ok_idxTo (hk := ?_)
 apply G.seq
 refine G.iff (h1 := fun h1 => ?_) (h2 := fun h1 => ?_)
 ·try simp only [zqz] at h1
  apply G.skip
  apply G.seq
  apply G.block
  apply G.seq
  refine G.rg tab_ok ok_idxTo (hk := ?_)
  apply G.seq
  refine G.rg tab_ok ok_idxTo (hk := ?_)
  refine G.fg [0, 1, 5, 7, 8, 16] (hk := ?_)
  refine G.iff (h1 := fun h2 => ?_) (h2 := fun h2 => ?_)
  ·try simp only [zqz] at h2
   apply G.seq
   refine G.rg tab_ok ok_idxTo (hk := ?_)
   refine G.fin tab_ok (hr := ?_)
   simp only [oneOrTup]
   congr 1
   exact (gidx_some (p := (isToC p q)) h1 hall h2).symm
  ·try simp only [zqz] at h2
   apply G.skip
   apply G.blk
   refine G.rg tab_ok ok_idxTo (hk := ?_)
   refine G.cn [0, 1, 7, 8] [] (h := ?_)
   exact G.upto (hJ (j + 1) ⟨by omega, gupto (p := (isToC p q)) hall h2⟩ (by omega)) (by simp)
 ·try simp only [zqz] at h1
  refine G.exit rfl ?_
  apply G.seq
  refine G.rg tab_ok ok_idxTo (hk := ?_)
  refine G.fin tab_ok (hr := ?_)
  simp only [oneOrTup]
  congr 1
  exact (gidx_none (fun k hk => hall k (by omega))).symm
def r_idxTo (xs0 : List A) (rr : A) : Prop := ∃ (ks : List LK) (p : Int) (q : Int), (ks.length < 2513169434844) ∧ xs0 = [.row false 5 (ks.map kv), .fn 79 [.rp 1 [[.int .i64 p]] 0 0, .rp 1 [[.int .i64 q]] 0 0]] ∧ rr = .int .i64 (gidx (isToC p q) ks)
noncomputable def q_idxTo : List A → Option A := kgr r_idxTo
theorem k_idxTo : KOk Try.prog (149, q_idxTo) := kgr_ok (enters_of Try.func149 rfl rfl) (by rintro xs0 rr ⟨ks, p, q, hc1, rfl, rfl⟩; exact idxTo_ac ks p q hc1)
theorem e_idxTo : ∀ (ks : List LK) (p : Int) (q : Int), (ks.length < 2513169434844) → q_idxTo [.row false 5 (ks.map kv), .fn 79 [.rp 1 [[.int .i64 p]] 0 0, .rp 1 [[.int .i64 q]] 0 0]] = some (.int .i64 (gidx (isToC p q) ks)) := by
 intro ks p q hc1
 refine kgr_eq (fun xs0 rr r2 h h2 => ?_) ⟨ks, p, q, hc1, rfl, rfl⟩
 obtain ⟨ks1, p1, q1, _, e1, rfl⟩ := h; obtain ⟨ks2, p2, q2, _, e2, rfl⟩ := h2
 rw [e1] at e2
 simp only [List.cons.injEq, A.int.injEq, A.agg.injEq, A.row.injEq, A.fn.injEq, A.rp.injEq, pv_inj, kv_inj, true_and, and_true] at e2
 obtain ⟨e3, e5, e6⟩ := e2
 subst e3 e5 e6
 rfl
theorem ok_onlyTo : Kn.ok Try.prog (kof [(70, q_implIsNetwork), (149, q_idxTo)]) := kof_cons k_implIsNetwork (kof_cons k_idxTo ((kof_nil _)))
theorem onlyTo_ac (ps : List PG) (ks : List LK) (p : Int) (q : Int) (hc1 : NW ps) (hc2 : KW ks) (hc3 : ps.length < 3518437208781) (hc4 : ks.length < 2513169434844) : AC Try.prog 78 [.agg [.row false 3 (ps.map pv), .row false 5 (ks.map kv)], .fn 79 [.rp 1 [[.int .i64 p]] 0 0, .rp 1 [[.int .i64 q]] 0 0]] (.tup [.int .i64 (linkToO ps ks p q).1, .bool (linkToO ps ks p q).2]) := by
 have e_implIsNetwork := e_implIsNetwork
 have e_idxTo := e_idxTo
 refine AC.of tab_ok Try.func78 rfl (Nat.le_of_ble_eq_true rfl) fun w0 S0 => ?_
 change G _ _ ⟨[(0, .agg [.row false 3 (ps.map pv), .row false 5 (ks.map kv)]), (1, .fn 79 [.rp 1 [[.int .i64 p]] 0 0, .rp 1 [[.int .i64 q]] 0 0])], [], 17⟩
 apply G.seq
 refine G.rg tab_ok ok_onlyTo (hk := ?_)
 apply G.seq
 apply G.seq
 refine G.rg tab_ok ok_onlyTo (hk := ?_)
 refine G.iff (h1 := fun h1 => ?_) (h2 := fun h1 => ?_)
 ·try simp only [zqz] at h1
  apply G.seq
  refine G.rg tab_ok ok_onlyTo (hk := ?_)
  refine G.fin tab_ok (hr := ?_)
  simp only [oneOrTup]
  rw [toO_bad h1]
 ·try simp only [zqz] at h1
  apply G.skip
  apply G.seq
  refine G.rg tab_ok ok_onlyTo (hk := ?_)
  apply G.seq
  apply G.seq
  refine G.rg tab_ok ok_onlyTo (hk := ?_)
  refine G.fg [6, 15] (hk := ?_)
  refine G.iff (h1 := fun h2 => ?_) (h2 := fun h2 => ?_)
  ·try simp only [zqz] at h2
   apply G.seq
   refine G.rg tab_ok ok_onlyTo (hk := ?_)
   refine G.fin tab_ok (hr := ?_)
   have hh := linkTo_at (p := p) (q := q) h1
   rw [if_pos h2] at hh
   simp only [oneOrTup]
   rw [← hh]
  ·try simp only [zqz] at h2
   apply G.skip
   apply G.seq
   refine G.rg tab_ok ok_onlyTo (hk := ?_)
   refine G.fin tab_ok (hr := ?_)
   have hh := linkTo_at (p := p) (q := q) h1
   rw [if_neg (by omega)] at hh
   simp only [oneOrTup]
   rw [← hh]
def r_onlyTo (xs0 : List A) (rr : A) : Prop := ∃ (ps : List PG) (ks : List LK) (p : Int) (q : Int), (NW ps) ∧ (KW ks) ∧ (ps.length < 3518437208781) ∧ (ks.length < 2513169434844) ∧ xs0 = [.agg [.row false 3 (ps.map pv), .row false 5 (ks.map kv)], .fn 79 [.rp 1 [[.int .i64 p]] 0 0, .rp 1 [[.int .i64 q]] 0 0]] ∧ rr = .tup [.int .i64 (linkToO ps ks p q).1, .bool (linkToO ps ks p q).2]
noncomputable def q_onlyTo : List A → Option A := kgr r_onlyTo
theorem k_onlyTo : KOk Try.prog (78, q_onlyTo) := kgr_ok (enters_of Try.func78 rfl rfl) (by rintro xs0 rr ⟨ps, ks, p, q, hc1, hc2, hc3, hc4, rfl, rfl⟩; exact onlyTo_ac ps ks p q hc1 hc2 hc3 hc4)
theorem e_onlyTo : ∀ (ps : List PG) (ks : List LK) (p : Int) (q : Int), (NW ps) → (KW ks) → (ps.length < 3518437208781) → (ks.length < 2513169434844) → q_onlyTo [.agg [.row false 3 (ps.map pv), .row false 5 (ks.map kv)], .fn 79 [.rp 1 [[.int .i64 p]] 0 0, .rp 1 [[.int .i64 q]] 0 0]] = some (.tup [.int .i64 (linkToO ps ks p q).1, .bool (linkToO ps ks p q).2]) := by
 intro ps ks p q hc1 hc2 hc3 hc4
 refine kgr_eq (fun xs0 rr r2 h h2 => ?_) ⟨ps, ks, p, q, hc1, hc2, hc3, hc4, rfl, rfl⟩
 obtain ⟨ps1, ks1, p1, q1, _, _, _, _, e1, rfl⟩ := h; obtain ⟨ps2, ks2, p2, q2, _, _, _, _, e2, rfl⟩ := h2
 rw [e1] at e2
 simp only [List.cons.injEq, A.int.injEq, A.agg.injEq, A.row.injEq, A.fn.injEq, A.rp.injEq, pv_inj, kv_inj, true_and, and_true] at e2
 obtain ⟨⟨e3, e4⟩, e5, e6⟩ := e2
 subst e3 e4 e5 e6
 rfl
theorem ok_implLinkTo : Kn.ok Try.prog (kof [(78, q_onlyTo)]) := kof_cons k_onlyTo ((kof_nil _))
theorem implLinkTo_ac (ps : List PG) (ks : List LK) (p : Int) (q : Int) (hc1 : NW ps) (hc2 : KW ks) (hc3 : ps.length < 3518437208781) (hc4 : ks.length < 2513169434844) : AC Try.prog 17 [.agg [.row false 3 (ps.map pv), .row false 5 (ks.map kv)], .int .i64 p, .int .i64 q] (.tup [.int .i64 (linkToO ps ks p q).1, .bool (linkToO ps ks p q).2]) := by
 have e_onlyTo := e_onlyTo
 refine AC.of tab_ok Try.func17 rfl (Nat.le_of_ble_eq_true rfl) fun w0 S0 => ?_
 change G _ _ ⟨[(0, .agg [.row false 3 (ps.map pv), .row false 5 (ks.map kv)]), (1, .int .i64 p), (2, .int .i64 q)], [], 13⟩
 apply G.seq
 refine G.rg tab_ok ok_implLinkTo (hk := ?_)
 apply G.seq
 refine G.rg tab_ok ok_implLinkTo (hk := ?_)
 refine G.fin tab_ok (hr := ?_)
 rfl
def r_implLinkTo (xs0 : List A) (rr : A) : Prop := ∃ (ps : List PG) (ks : List LK) (p : Int) (q : Int), (NW ps) ∧ (KW ks) ∧ (ps.length < 3518437208781) ∧ (ks.length < 2513169434844) ∧ xs0 = [.agg [.row false 3 (ps.map pv), .row false 5 (ks.map kv)], .int .i64 p, .int .i64 q] ∧ rr = .tup [.int .i64 (linkToO ps ks p q).1, .bool (linkToO ps ks p q).2]
noncomputable def q_implLinkTo : List A → Option A := kgr r_implLinkTo
theorem k_implLinkTo : KOk Try.prog (17, q_implLinkTo) := kgr_ok (enters_of Try.func17 rfl rfl) (by rintro xs0 rr ⟨ps, ks, p, q, hc1, hc2, hc3, hc4, rfl, rfl⟩; exact implLinkTo_ac ps ks p q hc1 hc2 hc3 hc4)
theorem e_implLinkTo : ∀ (ps : List PG) (ks : List LK) (p : Int) (q : Int), (NW ps) → (KW ks) → (ps.length < 3518437208781) → (ks.length < 2513169434844) → q_implLinkTo [.agg [.row false 3 (ps.map pv), .row false 5 (ks.map kv)], .int .i64 p, .int .i64 q] = some (.tup [.int .i64 (linkToO ps ks p q).1, .bool (linkToO ps ks p q).2]) := by
 intro ps ks p q hc1 hc2 hc3 hc4
 refine kgr_eq (fun xs0 rr r2 h h2 => ?_) ⟨ps, ks, p, q, hc1, hc2, hc3, hc4, rfl, rfl⟩
 obtain ⟨ps1, ks1, p1, q1, _, _, _, _, e1, rfl⟩ := h; obtain ⟨ps2, ks2, p2, q2, _, _, _, _, e2, rfl⟩ := h2
 rw [e1] at e2
 simp only [List.cons.injEq, A.int.injEq, A.agg.injEq, A.row.injEq, A.fn.injEq, A.rp.injEq, pv_inj, kv_inj, true_and, and_true] at e2
 obtain ⟨⟨e3, e4⟩, e5, e6⟩ := e2
 subst e3 e4 e5 e6
 rfl
-- not in this seat: specLinkTo
theorem linkFr1_ac (fr : Int) (ou : Int) (to : Int) (ip : Int) (tk : List Int) (p : Int) (q : Int)  : AC Try.prog 82 [.agg [.int .i64 fr, .int .i64 ou, .int .i64 to, .int .i64 ip, .row false 1 (tk.map iv)], .rp 1 [[.int .i64 p]] 0 0, .rp 1 [[.int .i64 q]] 0 0] (.bool (isFrC p q ⟨fr, ou, to, ip, tk⟩)) := by
 refine AC.of tab_ok Try.func82 rfl (Nat.le_of_ble_eq_true rfl) fun w0 S0 => ?_
 change G _ _ ⟨[(0, .agg [.int .i64 fr, .int .i64 ou, .int .i64 to, .int .i64 ip, .row false 1 (tk.map iv)]), (1, .rp 1 [[.int .i64 p]] 0 0), (2, .rp 1 [[.int .i64 q]] 0 0)], [], 19⟩
 apply G.seq
 refine G.rg tab_ok (kof_nil _) (hk := ?_)
 apply G.seq
 refine G.rg tab_ok (kof_nil _) (hk := ?_)
 refine G.fin tab_ok (hr := ?_)
 rfl
def r_linkFr1 (xs0 : List A) (rr : A) : Prop := ∃ (fr : Int) (ou : Int) (to : Int) (ip : Int) (tk : List Int) (p : Int) (q : Int), xs0 = [.agg [.int .i64 fr, .int .i64 ou, .int .i64 to, .int .i64 ip, .row false 1 (tk.map iv)], .rp 1 [[.int .i64 p]] 0 0, .rp 1 [[.int .i64 q]] 0 0] ∧ rr = .bool (isFrC p q ⟨fr, ou, to, ip, tk⟩)
noncomputable def q_linkFr1 : List A → Option A := kgr r_linkFr1
theorem k_linkFr1 : KOk Try.prog (82, q_linkFr1) := kgr_ok (enters_of Try.func82 rfl rfl) (by rintro xs0 rr ⟨fr, ou, to, ip, tk, p, q, rfl, rfl⟩; exact linkFr1_ac fr ou to ip tk p q)
theorem e_linkFr1 : ∀ (fr : Int) (ou : Int) (to : Int) (ip : Int) (tk : List Int) (p : Int) (q : Int), q_linkFr1 [.agg [.int .i64 fr, .int .i64 ou, .int .i64 to, .int .i64 ip, .row false 1 (tk.map iv)], .rp 1 [[.int .i64 p]] 0 0, .rp 1 [[.int .i64 q]] 0 0] = some (.bool (isFrC p q ⟨fr, ou, to, ip, tk⟩)) := by
 intro fr ou to ip tk p q
 refine kgr_eq (fun xs0 rr r2 h h2 => ?_) ⟨fr, ou, to, ip, tk, p, q, rfl, rfl⟩
 obtain ⟨fr1, ou1, to1, ip1, tk1, p1, q1, e1, rfl⟩ := h; obtain ⟨fr2, ou2, to2, ip2, tk2, p2, q2, e2, rfl⟩ := h2
 rw [e1] at e2
 simp only [List.cons.injEq, A.int.injEq, A.agg.injEq, A.row.injEq, A.rp.injEq, iv_inj, true_and, and_true] at e2
 simp [e2]
theorem ok_idxFr : Kn.ok Try.prog (kof [(82, q_linkFr1)]) := kof_cons k_linkFr1 ((kof_nil _))
theorem idxFr_ac (ks : List LK) (p : Int) (q : Int) (hc1 : ks.length < 2513169434844) : AC Try.prog 149 [.row false 5 (ks.map kv), .fn 82 [.rp 1 [[.int .i64 p]] 0 0, .rp 1 [[.int .i64 q]] 0 0]] (.int .i64 (gidx (isFrC p q) ks)) := by
 have e_linkFr1 := e_linkFr1
 refine AC.of tab_ok Try.func149 rfl (Nat.le_of_ble_eq_true rfl) fun w0 S0 => ?_
 change G _ _ ⟨[(0, .row false 5 (ks.map kv)), (1, .fn 82 [.rp 1 [[.int .i64 p]] 0 0, .rp 1 [[.int .i64 q]] 0 0])], [], 19⟩
 apply G.seq
 refine G.rg tab_ok ok_idxFr (hk := ?_)
 apply G.seq
 apply G.seq
 refine G.rg tab_ok ok_idxFr (hk := ?_)
 apply G.block
 refine G.cn [0, 1, 7, 8] [] (h := ?_)
 refine G.loopX (fun j : Nat => ⟨[(0, .row false 5 (ks.map kv)), (1, .fn 82 [.rp 1 [[.int .i64 p]] 0 0, .rp 1 [[.int .i64 q]] 0 0]), (7, .int .i64 ks.length), (8, .int .i64 j)], [], 19⟩) (fun j => j ≤ ks.length ∧ ∀ k < j, (isFrC p q) (ks.getD k default) = false) (fun j => ks.length - j) (0) (⟨Nat.zero_le _, by omega⟩) (rfl) ?_
 intro j hj J hJ
 obtain ⟨hj, hall⟩ := hj
 have hw : IntKind.i64.wrap ((j : Int) + 1) = (j : Int) + 1 := wrap64 (by omega) (by omega)
 apply G.seq
 refine G.rg tab_ok ok_idxFr (hk := ?_)
 apply G.seq
 refine G.iff (h1 := fun h1 => ?_) (h2 := fun h1 => ?_)
 ·try simp only [zqz] at h1
  apply G.skip
  apply G.seq
  apply G.block
  apply G.seq
  refine G.rg tab_ok ok_idxFr (hk := ?_)
  apply G.seq
  refine G.rg tab_ok ok_idxFr (hk := ?_)
  refine G.fg [0, 1, 5, 7, 8, 16] (hk := ?_)
  refine G.iff (h1 := fun h2 => ?_) (h2 := fun h2 => ?_)
  ·try simp only [zqz] at h2
   apply G.seq
   refine G.rg tab_ok ok_idxFr (hk := ?_)
   refine G.fin tab_ok (hr := ?_)
   simp only [oneOrTup]
   congr 1
   exact (gidx_some (p := (isFrC p q)) h1 hall h2).symm
  ·try simp only [zqz] at h2
   apply G.skip
   apply G.blk
   refine G.rg tab_ok ok_idxFr (hk := ?_)
   refine G.cn [0, 1, 7, 8] [] (h := ?_)
   exact G.upto (hJ (j + 1) ⟨by omega, gupto (p := (isFrC p q)) hall h2⟩ (by omega)) (by simp)
 ·try simp only [zqz] at h1
  refine G.exit rfl ?_
  apply G.seq
  refine G.rg tab_ok ok_idxFr (hk := ?_)
  refine G.fin tab_ok (hr := ?_)
  simp only [oneOrTup]
  congr 1
  exact (gidx_none (fun k hk => hall k (by omega))).symm
def r_idxFr (xs0 : List A) (rr : A) : Prop := ∃ (ks : List LK) (p : Int) (q : Int), (ks.length < 2513169434844) ∧ xs0 = [.row false 5 (ks.map kv), .fn 82 [.rp 1 [[.int .i64 p]] 0 0, .rp 1 [[.int .i64 q]] 0 0]] ∧ rr = .int .i64 (gidx (isFrC p q) ks)
noncomputable def q_idxFr : List A → Option A := kgr r_idxFr
theorem k_idxFr : KOk Try.prog (149, q_idxFr) := kgr_ok (enters_of Try.func149 rfl rfl) (by rintro xs0 rr ⟨ks, p, q, hc1, rfl, rfl⟩; exact idxFr_ac ks p q hc1)
theorem e_idxFr : ∀ (ks : List LK) (p : Int) (q : Int), (ks.length < 2513169434844) → q_idxFr [.row false 5 (ks.map kv), .fn 82 [.rp 1 [[.int .i64 p]] 0 0, .rp 1 [[.int .i64 q]] 0 0]] = some (.int .i64 (gidx (isFrC p q) ks)) := by
 intro ks p q hc1
 refine kgr_eq (fun xs0 rr r2 h h2 => ?_) ⟨ks, p, q, hc1, rfl, rfl⟩
 obtain ⟨ks1, p1, q1, _, e1, rfl⟩ := h; obtain ⟨ks2, p2, q2, _, e2, rfl⟩ := h2
 rw [e1] at e2
 simp only [List.cons.injEq, A.int.injEq, A.agg.injEq, A.row.injEq, A.fn.injEq, A.rp.injEq, pv_inj, kv_inj, true_and, and_true] at e2
 obtain ⟨e3, e5, e6⟩ := e2
 subst e3 e5 e6
 rfl
theorem ok_onlyFr : Kn.ok Try.prog (kof [(70, q_implIsNetwork), (149, q_idxFr)]) := kof_cons k_implIsNetwork (kof_cons k_idxFr ((kof_nil _)))
theorem onlyFr_ac (ps : List PG) (ks : List LK) (p : Int) (q : Int) (hc1 : NW ps) (hc2 : KW ks) (hc3 : ps.length < 3518437208781) (hc4 : ks.length < 2513169434844) : AC Try.prog 78 [.agg [.row false 3 (ps.map pv), .row false 5 (ks.map kv)], .fn 82 [.rp 1 [[.int .i64 p]] 0 0, .rp 1 [[.int .i64 q]] 0 0]] (.tup [.int .i64 (linkFrO ps ks p q).1, .bool (linkFrO ps ks p q).2]) := by
 have e_implIsNetwork := e_implIsNetwork
 have e_idxFr := e_idxFr
 refine AC.of tab_ok Try.func78 rfl (Nat.le_of_ble_eq_true rfl) fun w0 S0 => ?_
 change G _ _ ⟨[(0, .agg [.row false 3 (ps.map pv), .row false 5 (ks.map kv)]), (1, .fn 82 [.rp 1 [[.int .i64 p]] 0 0, .rp 1 [[.int .i64 q]] 0 0])], [], 17⟩
 apply G.seq
 refine G.rg tab_ok ok_onlyFr (hk := ?_)
 apply G.seq
 apply G.seq
 refine G.rg tab_ok ok_onlyFr (hk := ?_)
 refine G.iff (h1 := fun h1 => ?_) (h2 := fun h1 => ?_)
 ·try simp only [zqz] at h1
  apply G.seq
  refine G.rg tab_ok ok_onlyFr (hk := ?_)
  refine G.fin tab_ok (hr := ?_)
  simp only [oneOrTup]
  rw [frO_bad h1]
 ·try simp only [zqz] at h1
  apply G.skip
  apply G.seq
  refine G.rg tab_ok ok_onlyFr (hk := ?_)
  apply G.seq
  apply G.seq
  refine G.rg tab_ok ok_onlyFr (hk := ?_)
  refine G.fg [6, 15] (hk := ?_)
  refine G.iff (h1 := fun h2 => ?_) (h2 := fun h2 => ?_)
  ·try simp only [zqz] at h2
   apply G.seq
   refine G.rg tab_ok ok_onlyFr (hk := ?_)
   refine G.fin tab_ok (hr := ?_)
   have hh := linkFr_at (p := p) (q := q) h1
   rw [if_pos h2] at hh
   simp only [oneOrTup]
   rw [← hh]
  ·try simp only [zqz] at h2
   apply G.skip
   apply G.seq
   refine G.rg tab_ok ok_onlyFr (hk := ?_)
   refine G.fin tab_ok (hr := ?_)
   have hh := linkFr_at (p := p) (q := q) h1
   rw [if_neg (by omega)] at hh
   simp only [oneOrTup]
   rw [← hh]
def r_onlyFr (xs0 : List A) (rr : A) : Prop := ∃ (ps : List PG) (ks : List LK) (p : Int) (q : Int), (NW ps) ∧ (KW ks) ∧ (ps.length < 3518437208781) ∧ (ks.length < 2513169434844) ∧ xs0 = [.agg [.row false 3 (ps.map pv), .row false 5 (ks.map kv)], .fn 82 [.rp 1 [[.int .i64 p]] 0 0, .rp 1 [[.int .i64 q]] 0 0]] ∧ rr = .tup [.int .i64 (linkFrO ps ks p q).1, .bool (linkFrO ps ks p q).2]
noncomputable def q_onlyFr : List A → Option A := kgr r_onlyFr
theorem k_onlyFr : KOk Try.prog (78, q_onlyFr) := kgr_ok (enters_of Try.func78 rfl rfl) (by rintro xs0 rr ⟨ps, ks, p, q, hc1, hc2, hc3, hc4, rfl, rfl⟩; exact onlyFr_ac ps ks p q hc1 hc2 hc3 hc4)
theorem e_onlyFr : ∀ (ps : List PG) (ks : List LK) (p : Int) (q : Int), (NW ps) → (KW ks) → (ps.length < 3518437208781) → (ks.length < 2513169434844) → q_onlyFr [.agg [.row false 3 (ps.map pv), .row false 5 (ks.map kv)], .fn 82 [.rp 1 [[.int .i64 p]] 0 0, .rp 1 [[.int .i64 q]] 0 0]] = some (.tup [.int .i64 (linkFrO ps ks p q).1, .bool (linkFrO ps ks p q).2]) := by
 intro ps ks p q hc1 hc2 hc3 hc4
 refine kgr_eq (fun xs0 rr r2 h h2 => ?_) ⟨ps, ks, p, q, hc1, hc2, hc3, hc4, rfl, rfl⟩
 obtain ⟨ps1, ks1, p1, q1, _, _, _, _, e1, rfl⟩ := h; obtain ⟨ps2, ks2, p2, q2, _, _, _, _, e2, rfl⟩ := h2
 rw [e1] at e2
 simp only [List.cons.injEq, A.int.injEq, A.agg.injEq, A.row.injEq, A.fn.injEq, A.rp.injEq, pv_inj, kv_inj, true_and, and_true] at e2
 obtain ⟨⟨e3, e4⟩, e5, e6⟩ := e2
 subst e3 e4 e5 e6
 rfl
theorem ok_implLinkFrom : Kn.ok Try.prog (kof [(78, q_onlyFr)]) := kof_cons k_onlyFr ((kof_nil _))
theorem implLinkFrom_ac (ps : List PG) (ks : List LK) (p : Int) (q : Int) (hc1 : NW ps) (hc2 : KW ks) (hc3 : ps.length < 3518437208781) (hc4 : ks.length < 2513169434844) : AC Try.prog 19 [.agg [.row false 3 (ps.map pv), .row false 5 (ks.map kv)], .int .i64 p, .int .i64 q] (.tup [.int .i64 (linkFrO ps ks p q).1, .bool (linkFrO ps ks p q).2]) := by
 have e_onlyFr := e_onlyFr
 refine AC.of tab_ok Try.func19 rfl (Nat.le_of_ble_eq_true rfl) fun w0 S0 => ?_
 change G _ _ ⟨[(0, .agg [.row false 3 (ps.map pv), .row false 5 (ks.map kv)]), (1, .int .i64 p), (2, .int .i64 q)], [], 13⟩
 apply G.seq
 refine G.rg tab_ok ok_implLinkFrom (hk := ?_)
 apply G.seq
 refine G.rg tab_ok ok_implLinkFrom (hk := ?_)
 refine G.fin tab_ok (hr := ?_)
 rfl
def r_implLinkFrom (xs0 : List A) (rr : A) : Prop := ∃ (ps : List PG) (ks : List LK) (p : Int) (q : Int), (NW ps) ∧ (KW ks) ∧ (ps.length < 3518437208781) ∧ (ks.length < 2513169434844) ∧ xs0 = [.agg [.row false 3 (ps.map pv), .row false 5 (ks.map kv)], .int .i64 p, .int .i64 q] ∧ rr = .tup [.int .i64 (linkFrO ps ks p q).1, .bool (linkFrO ps ks p q).2]
noncomputable def q_implLinkFrom : List A → Option A := kgr r_implLinkFrom
theorem k_implLinkFrom : KOk Try.prog (19, q_implLinkFrom) := kgr_ok (enters_of Try.func19 rfl rfl) (by rintro xs0 rr ⟨ps, ks, p, q, hc1, hc2, hc3, hc4, rfl, rfl⟩; exact implLinkFrom_ac ps ks p q hc1 hc2 hc3 hc4)
theorem e_implLinkFrom : ∀ (ps : List PG) (ks : List LK) (p : Int) (q : Int), (NW ps) → (KW ks) → (ps.length < 3518437208781) → (ks.length < 2513169434844) → q_implLinkFrom [.agg [.row false 3 (ps.map pv), .row false 5 (ks.map kv)], .int .i64 p, .int .i64 q] = some (.tup [.int .i64 (linkFrO ps ks p q).1, .bool (linkFrO ps ks p q).2]) := by
 intro ps ks p q hc1 hc2 hc3 hc4
 refine kgr_eq (fun xs0 rr r2 h h2 => ?_) ⟨ps, ks, p, q, hc1, hc2, hc3, hc4, rfl, rfl⟩
 obtain ⟨ps1, ks1, p1, q1, _, _, _, _, e1, rfl⟩ := h; obtain ⟨ps2, ks2, p2, q2, _, _, _, _, e2, rfl⟩ := h2
 rw [e1] at e2
 simp only [List.cons.injEq, A.int.injEq, A.agg.injEq, A.row.injEq, A.fn.injEq, A.rp.injEq, pv_inj, kv_inj, true_and, and_true] at e2
 obtain ⟨⟨e3, e4⟩, e5, e6⟩ := e2
 subst e3 e4 e5 e6
 rfl
-- not in this seat: specLinkFrom
end Go.Proofs.Ytimgfinlbhodhaa.Ab
