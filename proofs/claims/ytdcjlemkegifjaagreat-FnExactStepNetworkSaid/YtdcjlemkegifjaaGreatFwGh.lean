/- Walks of functions of the program, and the plain definitions. -/
import Derived.Test.YtdcjlemkegifjaaGreatFwGd
namespace Go.Proofs.YtdcjlemkegifjaaGreat.Ab
open Go
set_option linter.unusedVariables false
set_option linter.unusedSimpArgs false
set_option maxHeartbeats 4000000
theorem ok_szIntSS : Kn.ok Tryz.prog (kof [(42, q_szIntS)]) := kof_cons k_szIntS ((kof_nil _))
theorem szIntSS_ac (ins : List (List Int)) (n : Int) (hc1 : 0 ≤ n) (hc2 : n ≤ 1048576) (hc3 : ins.length < 5864062014805) (hc4 : LW ins) : AC Tryz.prog 18 [.row false 1 (ins.map ivL), .int .i64 n] (.int .i64 (szSS n ins)) := by
 have e_szIntS := e_szIntS
 have hivl := ivL_eq
 have hw0 : IntKind.i64.wrap (n - (ins.length : Int)) = n - ins.length := wrap64 (by omega) (by omega)
 refine AC.of tab_ok Tryz.func18 rfl (Nat.le_of_ble_eq_true rfl) fun w0 S0 => ?_
 change G _ _ ⟨[(0, .row false 1 (ins.map ivL)), (1, .int .i64 n)], [], 27⟩
 apply G.seq
 refine G.rg tab_ok ok_szIntSS (hk := ?_)
 apply G.seq
 refine G.rg tab_ok ok_szIntSS (hk := ?_)
 apply G.seq
 apply G.seq
 refine G.rg tab_ok ok_szIntSS (hk := ?_)
 refine G.iff (h1 := fun h1 => ?_) (h2 := fun h1 => ?_)
 ·try simp only [zqz] at h1
  apply G.seq
  refine G.rg tab_ok ok_szIntSS (hk := ?_)
  refine G.fin tab_ok (hr := ?_)
  simp only [oneOrTup]
  congr 1
  unfold szSS
  rw [if_pos (by omega)]
 ·try simp only [zqz] at h1
  apply G.skip
  apply G.seq
  apply G.seq
  refine G.rg tab_ok ok_szIntSS (hk := ?_)
  apply G.block
  refine G.cn [0, 1, 5] [] (h := ?_)
  refine G.loopX (fun j : Nat => ⟨[(0, .row false 1 (ins.map ivL)), (1, .int .i64 (n - (ins.length : Int) - (tot (ins.take j) : Int))), (5, .int .i64 j)], [], 27⟩) (fun j => j ≤ ins.length ∧ 0 ≤ n - (ins.length : Int) - (tot (ins.take j) : Int)) (fun j => ins.length - j) (0) (⟨Nat.zero_le _, by simp only [List.take_zero, tot_nil]; omega⟩) (by simp [tot_nil]) ?_
  intro j hj J hJ
  obtain ⟨hj, hk⟩ := hj
  have hk2 : n - (ins.length : Int) - (tot (ins.take j) : Int) ≤ 1048576 := by omega
  have hw : IntKind.i64.wrap ((j : Int) + 1) = (j : Int) + 1 := wrap64 (by omega) (by omega)
  apply G.seq
  apply G.seq
  refine G.rg tab_ok ok_szIntSS (hk := ?_)
  refine G.iff (h1 := fun h2 => ?_) (h2 := fun h2 => ?_)
  ·try simp only [zqz] at h2
   apply G.skip
   apply G.seq
   apply G.block
   apply G.seq
   have hlr : (ins.getD j default).length < 17592186044416 := hc4 _ (getD_mem h2)
   refine G.rg tab_ok ok_szIntSS (hk := ?_)
   apply G.seq
   refine G.rg tab_ok ok_szIntSS (hk := ?_)
   refine G.fg [0, 1, 5, 25] (hk := ?_)
   refine G.iff (h1 := fun h3 => ?_) (h2 := fun h3 => ?_)
   ·try simp only [zqz] at h3
    apply G.seq
    refine G.rg tab_ok ok_szIntSS (hk := ?_)
    refine G.fin tab_ok (hr := ?_)
    have hts := tot_get h2
    simp only [oneOrTup]
    congr 1
    unfold szSS
    split at h3
    ·rw [if_pos (by omega)]
    ·omega
   ·try simp only [zqz] at h3
    apply G.skip
    apply G.blk
    refine G.rg tab_ok ok_szIntSS (hk := ?_)
    refine G.cn [0, 1, 5] [] (h := ?_)
    have hts := tot_succ h2
    have hv : (if n - (ins.length : Int) - (tot (ins.take j) : Int) - ((ins.getD j default).length : Int) < 0 then -1 else n - (ins.length : Int) - (tot (ins.take j) : Int) - ((ins.getD j default).length : Int)) = n - (ins.length : Int) - (tot (ins.take (j + 1)) : Int) := by
     split at h3
     ·omega
     ·rename_i hh; rw [if_neg hh]; omega
    rw [hv]
    have hpos : 0 ≤ n - (ins.length : Int) - (tot (ins.take (j + 1)) : Int) := by rw [hv] at h3; omega
    exact G.upto (hJ (j + 1) ⟨by omega, hpos⟩ (by omega)) (by simp)
  ·try simp only [zqz] at h2
   refine G.exit rfl ?_
   apply G.seq
   refine G.rg tab_ok ok_szIntSS (hk := ?_)
   obtain rfl : j = ins.length := by omega
   rw [List.take_length] at hk ⊢
   refine G.fin tab_ok (hr := ?_)
   simp only [oneOrTup]
   congr 1
   unfold szSS
   rw [if_neg (by omega)]
def r_szIntSS (xs0 : List A) (rr : A) : Prop := ∃ (ins : List (List Int)) (n : Int), (0 ≤ n) ∧ (n ≤ 1048576) ∧ (ins.length < 5864062014805) ∧ (LW ins) ∧ xs0 = [.row false 1 (ins.map ivL), .int .i64 n] ∧ rr = .int .i64 (szSS n ins)
noncomputable def q_szIntSS : List A → Option A := kgr r_szIntSS
theorem k_szIntSS : KOk Tryz.prog (18, q_szIntSS) := kgr_ok (enters_of Tryz.func18 rfl rfl) (by rintro xs0 rr ⟨ins, n, hc1, hc2, hc3, hc4, rfl, rfl⟩; exact szIntSS_ac ins n hc1 hc2 hc3 hc4)
theorem e_szIntSS : ∀ (ins : List (List Int)) (n : Int), (0 ≤ n) → (n ≤ 1048576) → (ins.length < 5864062014805) → (LW ins) → q_szIntSS [.row false 1 (ins.map ivL), .int .i64 n] = some (.int .i64 (szSS n ins)) := by
 intro ins n hc1 hc2 hc3 hc4
 refine kgr_eq (fun xs0 rr r2 h h2 => ?_) ⟨ins, n, hc1, hc2, hc3, hc4, rfl, rfl⟩
 obtain ⟨ins1, n1, _, _, _, _, e1, rfl⟩ := h; obtain ⟨ins2, n2, _, _, _, _, e2, rfl⟩ := h2
 rw [e1] at e2
 simp only [List.cons.injEq, A.int.injEq, A.row.injEq, ivL_inj, true_and, and_true] at e2
 simp [e2]
theorem ok_toIntSS : Kn.ok Tryz.prog (kof [(53, q_toIntS)]) := kof_cons k_toIntS ((kof_nil _))
theorem toIntSS_ac (ins : List (List Int)) (hc1 : ins.length < 5864062014805) (hc2 : LW ins) : AC Tryz.prog 25 [.row false 1 (ins.map ivL)] (.row true 1 (ins.map ovL)) := by
 have e_toIntS := e_toIntS
 have hivl := ivL_eq
 have hb1 : (ins.length : Int) ≤ 4611686018427387904 := by omega
 have hb2 : 24 * (ins.length : Int) ≤ 140737488355328 := by omega
 refine AC.of tab_ok Tryz.func25 rfl (Nat.le_of_ble_eq_true rfl) fun w0 S0 => ?_
 change G _ _ ⟨[(0, .row false 1 (ins.map ivL))], [], 23⟩
 apply G.seq
 refine G.rg tab_ok ok_toIntSS (hk := ?_)
 apply G.seq
 refine G.rg tab_ok ok_toIntSS (hk := ?_)
 apply G.seq
 apply G.seq
 refine G.rg tab_ok ok_toIntSS (hk := ?_)
 apply G.block
 refine G.cn [0, 3, 4] [0] (h := ?_)
 refine G.loopX (fun j : Nat => ⟨[(0, .row false 1 (ins.map ivL)), (3, .sl 0 0 ins.length), (4, .int .i64 j)], [some (1, fillB ovL ins [.nils] j)], 23⟩) (fun j => j ≤ ins.length) (fun j => ins.length - j) (0) (Nat.zero_le _) (by simp [fillB]) ?_
 intro j hj J hJ
 have hw : IntKind.i64.wrap ((j : Int) + 1) = (j : Int) + 1 := wrap64 (by omega) (by omega)
 have hlen := fillB_len ovL [.nils] hj
 apply G.seq
 apply G.seq
 refine G.rg tab_ok ok_toIntSS (hk := ?_)
 refine G.iff (h1 := fun h1 => ?_) (h2 := fun h1 => ?_)
 ·try simp only [zqz] at h1
  apply G.skip
  apply G.seq
  apply G.block
  have hg := fillB_get ovL [.nils] h1
  have hlr : (ins.getD j default).length < 17592186044416 := hc2 _ (getD_mem h1)
  refine G.rg tab_ok ok_toIntSS (hk := ?_)
  refine G.unfocusF 0 1 (r := ins.getD j default) rfl rfl (by decide) rfl h1 rfl ?_
  apply G.blk
  refine G.rg tab_ok ok_toIntSS (hk := ?_)
  have hp := fillB_pure ovL [.nils] (l := ins) (i := j + 1) (fun x => by simp [ovL, pureL, pureA, pureLL_iv]) rfl
  refine G.cn [0, 3, 4] [0] (h := ?_)
  exact G.upto (hJ (j + 1) (by omega) (by omega)) (by simp)
 ·try simp only [zqz] at h1
  refine G.exit rfl ?_
  apply G.seq
  refine G.rg tab_ok ok_toIntSS (hk := ?_)
  obtain rfl : j = ins.length := by omega
  rw [fillB_full]
  have hpov := pureLL_ovL
  refine G.fin tab_ok (hr := ?_)
  rfl
def r_toIntSS (xs0 : List A) (rr : A) : Prop := ∃ (ins : List (List Int)), (ins.length < 5864062014805) ∧ (LW ins) ∧ xs0 = [.row false 1 (ins.map ivL)] ∧ rr = .row true 1 (ins.map ovL)
noncomputable def q_toIntSS : List A → Option A := kgr r_toIntSS
theorem k_toIntSS : KOk Tryz.prog (25, q_toIntSS) := kgr_ok (enters_of Tryz.func25 rfl rfl) (by rintro xs0 rr ⟨ins, hc1, hc2, rfl, rfl⟩; exact toIntSS_ac ins hc1 hc2)
theorem e_toIntSS : ∀ (ins : List (List Int)), (ins.length < 5864062014805) → (LW ins) → q_toIntSS [.row false 1 (ins.map ivL)] = some (.row true 1 (ins.map ovL)) := by
 intro ins hc1 hc2
 refine kgr_eq (fun xs0 rr r2 h h2 => ?_) ⟨ins, hc1, hc2, rfl, rfl⟩
 obtain ⟨ins1, _, _, e1, rfl⟩ := h; obtain ⟨ins2, _, _, e2, rfl⟩ := h2
 rw [e1] at e2
 simp only [List.cons.injEq, A.row.injEq, ivL_inj, true_and, and_true] at e2
 simp [e2]
theorem ok_eqIntSS : Kn.ok Tryz.prog (kof [(61, q_eqIntS)]) := kof_cons k_eqIntS ((kof_nil _))
theorem eqIntSS_ac (ins : List (List Int)) (m : List (List Int)) (hc1 : LW ins) (hc2 : LW m) (hc3 : ins.length < 5864062014805) : AC Tryz.prog 30 [.row false 1 (ins.map ivL), .row false 1 (m.map ivL)] (.bool (decide (ins = m))) := by
 have e_eqIntS := e_eqIntS
 have hivl := ivL_eq
 refine AC.of tab_ok Tryz.func30 rfl (Nat.le_of_ble_eq_true rfl) fun w0 S0 => ?_
 change G _ _ ⟨[(0, .row false 1 (ins.map ivL)), (1, .row false 1 (m.map ivL))], [], 27⟩
 apply G.seq
 refine G.rg tab_ok ok_eqIntSS (hk := ?_)
 apply G.seq
 apply G.seq
 refine G.rg tab_ok ok_eqIntSS (hk := ?_)
 refine G.iff (h1 := fun h1 => ?_) (h2 := fun h1 => ?_)
 ·try simp only [zqz] at h1
  apply G.seq
  refine G.rg tab_ok ok_eqIntSS (hk := ?_)
  refine G.fin tab_ok (hr := ?_)
  simp only [oneOrTup]
  congr 1
  symm
  rw [decide_eq_false_iff_not]
  intro e
  exact h1 (by rw [e])
 ·try simp only [zqz] at h1
  apply G.skip
  apply G.seq
  apply G.seq
  refine G.rg tab_ok ok_eqIntSS (hk := ?_)
  apply G.block
  refine G.cn [0, 1, 5] [] (h := ?_)
  refine G.loopX (fun j : Nat => ⟨[(0, .row false 1 (ins.map ivL)), (1, .row false 1 (m.map ivL)), (5, .int .i64 j)], [], 27⟩) (fun j => j ≤ ins.length ∧ ∀ k < j, ins.getD k default = m.getD k default) (fun j => ins.length - j) (0) (⟨Nat.zero_le _, by omega⟩) (by simp) ?_
  intro j hj J hJ
  obtain ⟨hj, hall⟩ := hj
  have hw : IntKind.i64.wrap ((j : Int) + 1) = (j : Int) + 1 := wrap64 (by omega) (by omega)
  apply G.seq
  apply G.seq
  refine G.rg tab_ok ok_eqIntSS (hk := ?_)
  refine G.iff (h1 := fun h2 => ?_) (h2 := fun h2 => ?_)
  ·try simp only [zqz] at h2
   apply G.skip
   apply G.seq
   apply G.block
   apply G.seq
   have h1m : j < m.length := by omega
   have h1l : j < ins.length := by omega
   have hlr : (ins.getD j default).length < 17592186044416 := hc1 _ (getD_mem h1l)
   have hlm : (m.getD j default).length < 17592186044416 := hc2 _ (getD_mem h1m)
   refine G.dr mixed tab_ok ok_eqIntSS [0, 1, 2, 3, 4, 5, 6, 7, 8, 9] (hk := ?_)
   refine G.fg [0, 1, 5, 26] (hk := ?_)
   refine G.iff (h1 := fun h3 => ?_) (h2 := fun h3 => ?_)
   ·try simp only [zqz] at h3
    apply G.seq
    refine G.rg tab_ok ok_eqIntSS (hk := ?_)
    refine G.fin tab_ok (hr := ?_)
    simp only [oneOrTup]
    congr 1
    symm
    rw [decide_eq_false_iff_not]
    intro e
    exact h3 (by rw [e])
   ·try simp only [zqz] at h3
    apply G.skip
    apply G.blk
    refine G.rg tab_ok ok_eqIntSS (hk := ?_)
    refine G.cn [0, 1, 5] [] (h := ?_)
    exact G.upto (hJ (j + 1) ⟨by omega, geq_upto hall h3⟩ (by omega)) (by simp)
  ·try simp only [zqz] at h2
   refine G.exit rfl ?_
   apply G.seq
   refine G.rg tab_ok ok_eqIntSS (hk := ?_)
   refine G.fin tab_ok (hr := ?_)
   simp only [oneOrTup]
   congr 1
   symm
   rw [decide_eq_true_eq]
   exact geq_all (by omega) (fun k hk => hall k (by omega))
def r_eqIntSS (xs0 : List A) (rr : A) : Prop := ∃ (ins : List (List Int)) (m : List (List Int)), (LW ins) ∧ (LW m) ∧ (ins.length < 5864062014805) ∧ xs0 = [.row false 1 (ins.map ivL), .row false 1 (m.map ivL)] ∧ rr = .bool (decide (ins = m))
noncomputable def q_eqIntSS : List A → Option A := kgr r_eqIntSS
theorem k_eqIntSS : KOk Tryz.prog (30, q_eqIntSS) := kgr_ok (enters_of Tryz.func30 rfl rfl) (by rintro xs0 rr ⟨ins, m, hc1, hc2, hc3, rfl, rfl⟩; exact eqIntSS_ac ins m hc1 hc2 hc3)
theorem e_eqIntSS : ∀ (ins : List (List Int)) (m : List (List Int)), (LW ins) → (LW m) → (ins.length < 5864062014805) → q_eqIntSS [.row false 1 (ins.map ivL), .row false 1 (m.map ivL)] = some (.bool (decide (ins = m))) := by
 intro ins m hc1 hc2 hc3
 refine kgr_eq (fun xs0 rr r2 h h2 => ?_) ⟨ins, m, hc1, hc2, hc3, rfl, rfl⟩
 obtain ⟨ins1, m1, _, _, _, e1, rfl⟩ := h; obtain ⟨ins2, m2, _, _, _, e2, rfl⟩ := h2
 rw [e1] at e2
 simp only [List.cons.injEq, A.row.injEq, ivL_inj, true_and, and_true] at e2
 simp [e2]
theorem ok_heldIntSS : Kn.ok Tryz.prog (kof [(66, q_heldIntS)]) := kof_cons k_heldIntS ((kof_nil _))
theorem heldIntSS_ac (ins : List (List Int)) (n : Int) (hc1 : 0 ≤ n) (hc2 : n + tot ins ≤ 1048576000) (hc3 : LW ins) (hc4 : ins.length < 1099511627776) : AC Tryz.prog 38 [.row false 1 (ins.map ivL), .int .i64 n] (.int .i64 (heldSS n ins)) := by
 have e_heldIntS := e_heldIntS
 have hivl := ivL_eq
 refine AC.of tab_ok Tryz.func38 rfl (Nat.le_of_ble_eq_true rfl) fun w0 S0 => ?_
 change G _ _ ⟨[(0, .row false 1 (ins.map ivL)), (1, .int .i64 n)], [], 21⟩
 apply G.seq
 refine G.rg tab_ok ok_heldIntSS (hk := ?_)
 apply G.seq
 apply G.seq
 refine G.rg tab_ok ok_heldIntSS (hk := ?_)
 apply G.block
 refine G.cn [0, 1, 5] [] (h := ?_)
 refine G.loopX (fun j : Nat => ⟨[(0, .row false 1 (ins.map ivL)), (1, .int .i64 (n + (tot (ins.take j) : Int))), (5, .int .i64 j)], [], 21⟩) (fun j => j ≤ ins.length ∧ heldSS n ins = heldSS (n + (tot (ins.take j) : Int)) (ins.drop j)) (fun j => ins.length - j) (0) (⟨Nat.zero_le _, by simp [tot_nil]⟩) (by simp [tot_nil]) ?_
 intro j hj J hJ
 obtain ⟨hj, hk⟩ := hj
 have hw : IntKind.i64.wrap ((j : Int) + 1) = (j : Int) + 1 := wrap64 (by omega) (by omega)
 apply G.seq
 apply G.seq
 refine G.rg tab_ok ok_heldIntSS (hk := ?_)
 refine G.iff (h1 := fun h1 => ?_) (h2 := fun h1 => ?_)
 ·try simp only [zqz] at h1
  apply G.skip
  apply G.seq
  apply G.block
  apply G.seq
  have htg := tot_get h1
  have hq1 : 0 ≤ n + (tot (ins.take j) : Int) := by omega
  have hq2 : n + (tot (ins.take j) : Int) ≤ 1099511627776 := by omega
  have hq3 : (ins.getD j default).length < 1099511627776 := by omega
  refine G.rg tab_ok ok_heldIntSS (hk := ?_)
  apply G.seq
  refine G.rg tab_ok ok_heldIntSS (hk := ?_)
  refine G.fg [0, 1, 5, 19] (hk := ?_)
  refine G.iff (h1 := fun h2 => ?_) (h2 := fun h2 => ?_)
  ·try simp only [zqz] at h2
   apply G.seq
   refine G.rg tab_ok ok_heldIntSS (hk := ?_)
   refine G.fin tab_ok (hr := ?_)
   simp only [oneOrTup]
   congr 1
   rw [hk, heldSS_step h1, if_pos h2]
  ·try simp only [zqz] at h2
   apply G.skip
   apply G.blk
   refine G.rg tab_ok ok_heldIntSS (hk := ?_)
   refine G.cn [0, 1, 5] [] (h := ?_)
   have hv : heldI (n + (tot (ins.take j) : Int)) (ins.getD j default) = n + (tot (ins.take (j + 1)) : Int) := by
    rcases heldI_cases (n + (tot (ins.take j) : Int)) (ins.getD j default) with e | e
    ·omega
    ·rw [e, tot_succ h1]; omega
   rw [hv] at h2 ⊢
   exact G.upto (hJ (j + 1) ⟨by omega, by rw [hk, heldSS_step h1, hv, if_neg (by omega)]⟩ (by omega)) (by simp)
 ·try simp only [zqz] at h1
  refine G.exit rfl ?_
  apply G.seq
  refine G.rg tab_ok ok_heldIntSS (hk := ?_)
  obtain rfl : j = ins.length := by omega
  rw [List.take_length, List.drop_length] at hk
  rw [List.take_length]
  refine G.fin tab_ok (hr := ?_)
  simp only [oneOrTup]
  congr 1
  rw [hk]
  rfl
def r_heldIntSS (xs0 : List A) (rr : A) : Prop := ∃ (ins : List (List Int)) (n : Int), (0 ≤ n) ∧ (n + tot ins ≤ 1048576000) ∧ (LW ins) ∧ (ins.length < 1099511627776) ∧ xs0 = [.row false 1 (ins.map ivL), .int .i64 n] ∧ rr = .int .i64 (heldSS n ins)
noncomputable def q_heldIntSS : List A → Option A := kgr r_heldIntSS
theorem k_heldIntSS : KOk Tryz.prog (38, q_heldIntSS) := kgr_ok (enters_of Tryz.func38 rfl rfl) (by rintro xs0 rr ⟨ins, n, hc1, hc2, hc3, hc4, rfl, rfl⟩; exact heldIntSS_ac ins n hc1 hc2 hc3 hc4)
theorem e_heldIntSS : ∀ (ins : List (List Int)) (n : Int), (0 ≤ n) → (n + tot ins ≤ 1048576000) → (LW ins) → (ins.length < 1099511627776) → q_heldIntSS [.row false 1 (ins.map ivL), .int .i64 n] = some (.int .i64 (heldSS n ins)) := by
 intro ins n hc1 hc2 hc3 hc4
 refine kgr_eq (fun xs0 rr r2 h h2 => ?_) ⟨ins, n, hc1, hc2, hc3, hc4, rfl, rfl⟩
 obtain ⟨ins1, n1, _, _, _, _, e1, rfl⟩ := h; obtain ⟨ins2, n2, _, _, _, _, e2, rfl⟩ := h2
 rw [e1] at e2
 simp only [List.cons.injEq, A.int.injEq, A.row.injEq, ivL_inj, true_and, and_true] at e2
 simp [e2]
theorem markIntSS_mc (h : Heap) (rs : List (List Int)) (n : Int) (hc1 : h = [some (1, rs.map ovL)]) (hc2 : 0 ≤ n) (hc3 : n + tot rs ≤ 1048576000) (hc4 : rs.length < 1099511627776) : MC Tryz.prog 36 h [.sl 0 0 rs.length, .int .i64 n] (.int .i64 (n + (tot rs : Int))) ([some (1, (mkSS n rs).map ovL)]) := by
 subst hc1
 refine MC.of tab_ok Tryz.func36 rfl (Nat.le_of_ble_eq_true rfl) fun w0 S0 fs0 φ0 hφ0 hq0 => ?_
 change G _ _ ⟨[(0, .sl 0 0 rs.length), (1, .int .i64 n)], _, 19⟩
 apply G.seq
 refine G.rg tab_ok (kof_nil _) (hk := ?_)
 apply G.seq
 apply G.seq
 refine G.rg tab_ok (kof_nil _) (hk := ?_)
 apply G.block
 refine G.fg [0, 1, 5] (hk := ?_)
 refine G.loopX (fun j : Nat => ⟨[(0, .sl 0 0 rs.length), (1, .int .i64 (n + (tot (rs.take j) : Int))), (5, .int .i64 j)], [some (1, (upSS n rs j).map ovL)], 19⟩) (fun j => j ≤ rs.length) (fun j => rs.length - j) (0) (Nat.zero_le _) (by simp [tot_nil, upSS_zero]) ?_
 intro j hj J hJ
 have hw : IntKind.i64.wrap ((j : Int) + 1) = (j : Int) + 1 := wrap64 (by omega) (by omega)
 apply G.seq
 apply G.seq
 refine G.rg tab_ok (kof_nil _) (hk := ?_)
 refine G.iff (h1 := fun h1 => ?_) (h2 := fun h1 => ?_)
 ·try simp only [zqz] at h1
  apply G.skip
  apply G.seq
  apply G.block
  have hlt : j < (upSS n rs j).length := by rw [upSS_len n hj]; exact h1
  have hgd := upSS_get n h1
  have htg := tot_get h1
  have hrdc : ∀ a : A, rdCells (((upSS n rs j).map ovL).set j [a]) j 0 1 = some [a] := fun a => by simp [rdCells, hlt]
  refine G.focusO 0 j rfl hlt ?_
  rw [hgd]
  refine G.rgN 5 tab_ok (kof_nil _) (hk := ?_)
  refine G.cf [1] en_markIntS (markIntS_mc [some (1, (rs.getD j default).map iv)] 0 (rs.getD j default) (n + (tot (rs.take j) : Int)) rfl (by omega) (by omega) (by omega)) (h := ?_)
  refine G.rgC tab_ok (kof_nil _) (hk := ?_)
  refine G.unfocusO 0 j 1 (outs := upSS n rs j) (r := mkI (n + (tot (rs.take j) : Int)) (rs.getD j default).length) rfl rfl (by decide) (by rw [mkI_len]) hlt ?_
  rw [upSS_set n h1]
  refine G.pop [0, 1, 5] (h' := [some (1, (upSS n rs (j + 1)).map ovL)]) (junk := [none]) rfl ?_ (by rw [hφ0]; exact Nat.le_refl _) ?_
  ·show (refLL _ _ && true) = true
   rw [pureLL_ref (pureLL_ovL _)]
   rfl
  apply G.blk
  refine G.rg tab_ok (kof_nil _) (hk := ?_)
  refine G.fg [0, 1, 5] (hk := ?_)
  have hts := tot_succ h1
  exact G.upto (hJ (j + 1) (by omega) (by omega)) (by simp [clip, refA, hts]; omega)
 ·try simp only [zqz] at h1
  refine G.exit rfl ?_
  apply G.seq
  refine G.rg tab_ok (kof_nil _) (hk := ?_)
  obtain rfl : j = rs.length := by omega
  rw [upSS_full, List.take_length]
  refine G.finM (junk := []) tab_ok (hr := ?_) (hh := ?_) (hq := ?_) (hl := ?_)
  ·rfl
  ·simp
  ·show (refLL _ _ && true) = true
   rw [pureLL_ref (pureLL_ovL _)]
   rfl
  ·rw [hφ0]; exact Nat.le_refl _
theorem markProgramS_mc (h : Heap) (ps : List PG) (n : Int) (hc1 : h = [some (3, ps.map opv)]) (hc2 : 0 ≤ n) (hc3 : n + (tP ps : Int) ≤ 1048576000) (hc4 : ps.length < 1099511627776) : MC Tryz.prog 33 h [.sl 0 0 ps.length, .int .i64 n] (.int .i64 (n + (tP ps : Int))) ([some (3, (mkG wPg mPg n ps).map opv)]) := by
 subst hc1
 unfold tP at hc3 ⊢
 refine MC.of tab_ok Tryz.func33 rfl (Nat.le_of_ble_eq_true rfl) fun w0 S0 fs0 φ0 hφ0 hq0 => ?_
 change G _ _ ⟨[(0, .sl 0 0 ps.length), (1, .int .i64 n)], _, 34⟩
 apply G.seq
 refine G.rg tab_ok (kof_nil _) (hk := ?_)
 apply G.seq
 apply G.seq
 refine G.rg tab_ok (kof_nil _) (hk := ?_)
 apply G.block
 refine G.fg [0, 1, 5] (hk := ?_)
 refine G.loopX (fun j : Nat => ⟨[(0, .sl 0 0 ps.length), (1, .int .i64 (n + (gtot wPg (ps.take j) : Int))), (5, .int .i64 j)], [some (3, (upG wPg mPg n ps j).map opv)], 34⟩) (fun j => j ≤ ps.length) (fun j => ps.length - j) (0) (Nat.zero_le _) (by simp [gtot_nil, upG_zero]) ?_
 intro j hj J hJ
 have hw : IntKind.i64.wrap ((j : Int) + 1) = (j : Int) + 1 := wrap64 (by omega) (by omega)
 apply G.seq
 apply G.seq
 refine G.rg tab_ok (kof_nil _) (hk := ?_)
 refine G.iff (h1 := fun h1 => ?_) (h2 := fun h1 => ?_)
 ·try simp only [zqz] at h1
  apply G.skip
  apply G.seq
  apply G.block
  apply G.seq
  have hlt : j < (upG wPg mPg n ps j).length := by rw [upG_len n hj]; exact h1
  have hgd := upG_get (w := wPg) (m := mPg) n h1
  have htg := gtot_get (f := wPg) h1
  have hwd : wPg (ps.getD j default) = 2 + 4 * (ps.getD j default).l.length := rfl
  have hw1 : IntKind.i64.wrap (n + (gtot wPg (ps.take j) : Int) + 1) = n + (gtot wPg (ps.take j) : Int) + 1 := wrap64 (by omega) (by omega)
  have hw2 : IntKind.i64.wrap (n + (gtot wPg (ps.take j) : Int) + 1 + 1) = n + (gtot wPg (ps.take j) : Int) + 1 + 1 := wrap64 (by omega) (by omega)
  have hgu : ((upG wPg mPg n ps j).map opv)[j]? = some [.int .i64 (ps.getD j default).i, .int .i64 (ps.getD j default).o, .row true 4 ((ps.getD j default).l.map insv)] := by
   rw [List.getElem?_map, List.getElem?_eq_getElem hlt]
   have e : (upG wPg mPg n ps j)[j] = (ps.getD j default) := by rw [← hgd]; simp [List.getD_eq_getElem?_getD, List.getElem?_eq_getElem hlt]
   rw [e]
   rfl
  have hr1 : ∀ e : List A, (((upG wPg mPg n ps j).map opv).set j e)[j]? = some e := row_self hgu
  have hr2 : ∀ e e2 : List A, (((upG wPg mPg n ps j).map opv).set j e).set j e2 = ((upG wPg mPg n ps j).map opv).set j e2 := fun _ _ => List.set_set ..
  have hrdc : ∀ (e : List A) (a b : Nat), rdCells (((upG wPg mPg n ps j).map opv).set j e) j a b = if ((e.drop a).take b).length = b ∧ b ≠ 0 then some ((e.drop a).take b) else none := fun e a b => by simp only [rdCells, hr1]
  refine G.rg tab_ok (kof_nil _) (hk := ?_)
  apply G.seq
  refine G.rg tab_ok (kof_nil _) (hk := ?_)
  apply G.seq
  refine G.rg tab_ok (kof_nil _) (hk := ?_)
  apply G.seq
  refine G.rg tab_ok (kof_nil _) (hk := ?_)
  refine G.focus 0 j 2 (e := [.int .i64 (n + (gtot wPg (ps.take j) : Int)), .int .i64 (n + (gtot wPg (ps.take j) : Int) + 1), .row true 4 ((ps.getD j default).l.map insv)]) (sz' := 4) (es' := (ps.getD j default).l.map insv) rfl (hr1 _) rfl ?_
  simp only [withH]
  refine G.rgN 6 tab_ok (kof_nil _) (hk := ?_)
  refine G.cf [1] en_markInstrS (markInstrS_mc [some (4, (ps.getD j default).l.map insv)] 0 _ (n + (gtot wPg (ps.take j) : Int) + 1 + 1) rfl (by omega) (by omega) (by omega)) (h := ?_)
  refine G.rgC tab_ok (kof_nil _) (hk := ?_)
  refine G.unfocusE 0 j 2 1 (f := opv) (l := (upG wPg mPg n ps j)) (mPg (n + (gtot wPg (ps.take j) : Int)) (ps.getD j default)) rfl hlt rfl rfl (by decide) (by first | rw [mkP_len] | rw [mkI_len] | simp [mkP_len, mkI_len]) (by first | exact pureLL_insv _ | exact pureLL_iv _) rfl ?_
  rw [upG_set n h1]
  refine G.pop [0, 1, 5] (h' := [some (3, (upG wPg mPg n ps (j + 1)).map opv)]) (junk := [none]) rfl ?_ (by rw [hφ0]; exact Nat.le_refl _) ?_
  ·show (refLL _ _ && true) = true
   rw [pureLL_ref (pureLL_opv _)]
   rfl
  apply G.blk
  refine G.rg tab_ok (kof_nil _) (hk := ?_)
  refine G.fg [0, 1, 5] (hk := ?_)
  have hts := gtot_succ (f := wPg) h1
  rw [hwd] at hts
  exact G.upto (hJ (j + 1) (by omega) (by omega)) (by simp [clip, refA, hts]; omega)
 ·try simp only [zqz] at h1
  refine G.exit rfl ?_
  apply G.seq
  refine G.rg tab_ok (kof_nil _) (hk := ?_)
  obtain rfl : j = ps.length := by omega
  rw [upG_full, List.take_length]
  refine G.finM (junk := []) tab_ok (hr := ?_) (hh := ?_) (hq := ?_) (hl := ?_)
  ·rfl
  ·simp
  ·show (refLL _ _ && true) = true
   rw [pureLL_ref (pureLL_opv _)]
   rfl
  ·rw [hφ0]; exact Nat.le_refl _
theorem markLinkS_mc (h : Heap) (ks : List LK) (n : Int) (hc1 : h = [some (5, ks.map okv)]) (hc2 : 0 ≤ n) (hc3 : n + (tK ks : Int) ≤ 1048576000) (hc4 : ks.length < 1099511627776) : MC Tryz.prog 34 h [.sl 0 0 ks.length, .int .i64 n] (.int .i64 (n + (tK ks : Int))) ([some (5, (mkG wLk mLk n ks).map okv)]) := by
 subst hc1
 unfold tK at hc3 ⊢
 refine MC.of tab_ok Tryz.func34 rfl (Nat.le_of_ble_eq_true rfl) fun w0 S0 fs0 φ0 hφ0 hq0 => ?_
 change G _ _ ⟨[(0, .sl 0 0 ks.length), (1, .int .i64 n)], _, 48⟩
 apply G.seq
 refine G.rg tab_ok (kof_nil _) (hk := ?_)
 apply G.seq
 apply G.seq
 refine G.rg tab_ok (kof_nil _) (hk := ?_)
 apply G.block
 refine G.fg [0, 1, 5] (hk := ?_)
 refine G.loopX (fun j : Nat => ⟨[(0, .sl 0 0 ks.length), (1, .int .i64 (n + (gtot wLk (ks.take j) : Int))), (5, .int .i64 j)], [some (5, (upG wLk mLk n ks j).map okv)], 48⟩) (fun j => j ≤ ks.length) (fun j => ks.length - j) (0) (Nat.zero_le _) (by simp [gtot_nil, upG_zero]) ?_
 intro j hj J hJ
 have hw : IntKind.i64.wrap ((j : Int) + 1) = (j : Int) + 1 := wrap64 (by omega) (by omega)
 apply G.seq
 apply G.seq
 refine G.rg tab_ok (kof_nil _) (hk := ?_)
 refine G.iff (h1 := fun h1 => ?_) (h2 := fun h1 => ?_)
 ·try simp only [zqz] at h1
  apply G.skip
  apply G.seq
  apply G.block
  apply G.seq
  have hlt : j < (upG wLk mLk n ks j).length := by rw [upG_len n hj]; exact h1
  have hgd := upG_get (w := wLk) (m := mLk) n h1
  have htg := gtot_get (f := wLk) h1
  have hwd : wLk (ks.getD j default) = 4 + (ks.getD j default).tk.length := rfl
  have hw1 : IntKind.i64.wrap (n + (gtot wLk (ks.take j) : Int) + 1) = n + (gtot wLk (ks.take j) : Int) + 1 := wrap64 (by omega) (by omega)
  have hw2 : IntKind.i64.wrap (n + (gtot wLk (ks.take j) : Int) + 1 + 1) = n + (gtot wLk (ks.take j) : Int) + 1 + 1 := wrap64 (by omega) (by omega)
  have hw3 : IntKind.i64.wrap (n + (gtot wLk (ks.take j) : Int) + 1 + 1 + 1) = n + (gtot wLk (ks.take j) : Int) + 1 + 1 + 1 := wrap64 (by omega) (by omega)
  have hw4 : IntKind.i64.wrap (n + (gtot wLk (ks.take j) : Int) + 1 + 1 + 1 + 1) = n + (gtot wLk (ks.take j) : Int) + 1 + 1 + 1 + 1 := wrap64 (by omega) (by omega)
  have hgu : ((upG wLk mLk n ks j).map okv)[j]? = some [.int .i64 (ks.getD j default).fr, .int .i64 (ks.getD j default).ou, .int .i64 (ks.getD j default).to, .int .i64 (ks.getD j default).ip, .row true 1 ((ks.getD j default).tk.map iv)] := by
   rw [List.getElem?_map, List.getElem?_eq_getElem hlt]
   have e : (upG wLk mLk n ks j)[j] = (ks.getD j default) := by rw [← hgd]; simp [List.getD_eq_getElem?_getD, List.getElem?_eq_getElem hlt]
   rw [e]
   rfl
  have hr1 : ∀ e : List A, (((upG wLk mLk n ks j).map okv).set j e)[j]? = some e := row_self hgu
  have hr2 : ∀ e e2 : List A, (((upG wLk mLk n ks j).map okv).set j e).set j e2 = ((upG wLk mLk n ks j).map okv).set j e2 := fun _ _ => List.set_set ..
  have hrdc : ∀ (e : List A) (a b : Nat), rdCells (((upG wLk mLk n ks j).map okv).set j e) j a b = if ((e.drop a).take b).length = b ∧ b ≠ 0 then some ((e.drop a).take b) else none := fun e a b => by simp only [rdCells, hr1]
  refine G.rg tab_ok (kof_nil _) (hk := ?_)
  apply G.seq
  refine G.rg tab_ok (kof_nil _) (hk := ?_)
  apply G.seq
  refine G.rg tab_ok (kof_nil _) (hk := ?_)
  apply G.seq
  refine G.rg tab_ok (kof_nil _) (hk := ?_)
  apply G.seq
  refine G.rg tab_ok (kof_nil _) (hk := ?_)
  apply G.seq
  refine G.rg tab_ok (kof_nil _) (hk := ?_)
  apply G.seq
  refine G.fg [0, 1, 5] (hk := ?_)
  refine G.rg tab_ok (kof_nil _) (hk := ?_)
  apply G.seq
  refine G.rg tab_ok (kof_nil _) (hk := ?_)
  refine G.focus 0 j 4 (e := [.int .i64 (n + (gtot wLk (ks.take j) : Int)), .int .i64 (n + (gtot wLk (ks.take j) : Int) + 1), .int .i64 (n + (gtot wLk (ks.take j) : Int) + 1 + 1), .int .i64 (n + (gtot wLk (ks.take j) : Int) + 1 + 1 + 1), .row true 1 ((ks.getD j default).tk.map iv)]) (sz' := 1) (es' := (ks.getD j default).tk.map iv) rfl (hr1 _) rfl ?_
  simp only [withH]
  refine G.rgN 6 tab_ok (kof_nil _) (hk := ?_)
  refine G.cf [1] en_markIntS (markIntS_mc [some (1, (ks.getD j default).tk.map iv)] 0 _ (n + (gtot wLk (ks.take j) : Int) + 1 + 1 + 1 + 1) rfl (by omega) (by omega) (by omega)) (h := ?_)
  refine G.rgC tab_ok (kof_nil _) (hk := ?_)
  refine G.unfocusE 0 j 4 1 (f := okv) (l := (upG wLk mLk n ks j)) (mLk (n + (gtot wLk (ks.take j) : Int)) (ks.getD j default)) rfl hlt rfl rfl (by decide) (by first | rw [mkP_len] | rw [mkI_len] | simp [mkP_len, mkI_len]) (by first | exact pureLL_insv _ | exact pureLL_iv _) rfl ?_
  rw [upG_set n h1]
  refine G.pop [0, 1, 5] (h' := [some (5, (upG wLk mLk n ks (j + 1)).map okv)]) (junk := [none]) rfl ?_ (by rw [hφ0]; exact Nat.le_refl _) ?_
  ·show (refLL _ _ && true) = true
   rw [pureLL_ref (pureLL_okv _)]
   rfl
  apply G.blk
  refine G.rg tab_ok (kof_nil _) (hk := ?_)
  refine G.fg [0, 1, 5] (hk := ?_)
  have hts := gtot_succ (f := wLk) h1
  rw [hwd] at hts
  exact G.upto (hJ (j + 1) (by omega) (by omega)) (by simp [clip, refA, hts]; omega)
 ·try simp only [zqz] at h1
  refine G.exit rfl ?_
  apply G.seq
  refine G.rg tab_ok (kof_nil _) (hk := ?_)
  obtain rfl : j = ks.length := by omega
  rw [upG_full, List.take_length]
  refine G.finM (junk := []) tab_ok (hr := ?_) (hh := ?_) (hq := ?_) (hl := ?_)
  ·rfl
  ·simp
  ·show (refLL _ _ && true) = true
   rw [pureLL_ref (pureLL_okv _)]
   rfl
  ·rw [hφ0]; exact Nat.le_refl _
theorem en_markProgramS : Enters Tryz.prog 33 := enters_of Tryz.func33 rfl rfl
theorem en_markLinkS : Enters Tryz.prog 34 := enters_of Tryz.func34 rfl rfl
theorem markNetwork_mc (h : Heap) (ps : List PG) (ks : List LK) (n : Int) (hc1 : h = [some (3, ps.map opv), some (5, ks.map okv)]) (hc2 : 0 ≤ n) (hc3 : n + (tP ps : Int) + (tK ks : Int) ≤ 1048576000) (hc4 : ps.length < 1099511627776) (hc5 : ks.length < 1099511627776) : MC Tryz.prog 12 h [.agg [.sl 0 0 ps.length, .sl 1 0 ks.length], .int .i64 n] (.int .i64 (n + (tP ps : Int) + (tK ks : Int))) ([some (3, (mkPS n ps).map opv), some (5, (mkKS (n + (tP ps : Int)) ks).map okv)]) := by
 subst hc1
 refine MC.of tab_ok Tryz.func12 rfl (Nat.le_of_ble_eq_true rfl) fun w0 S0 fs0 φ0 hφ0 hq0 => ?_
 change G _ _ ⟨[(0, .agg [.sl 0 0 ps.length, .sl 1 0 ks.length]), (1, .int .i64 n)], _, 14⟩
 apply G.seq
 refine G.rg tab_ok (kof_nil _) (hk := ?_)
 apply G.seq
 refine G.rgN 3 tab_ok (kof_nil _) (hk := ?_)
 refine G.cf [0] en_markProgramS (markProgramS_mc _ ps n rfl (by omega) (by omega) hc4) (h := ?_)
 refine G.rgC tab_ok (kof_nil _) (hk := ?_)
 apply G.seq
 refine G.rgN 3 tab_ok (kof_nil _) (hk := ?_)
 refine G.cf [1] en_markLinkS (markLinkS_mc _ ks (n + (tP ps : Int)) rfl (by omega) (by omega) hc5) (h := ?_)
 refine G.rgC tab_ok (kof_nil _) (hk := ?_)
 apply G.seq
 refine G.rg tab_ok (kof_nil _) (hk := ?_)
 refine G.finM (junk := [some (2, [[.sl 0 0 ps.length, .sl 1 0 ks.length]])]) tab_ok (hr := ?_) (hh := ?_) (hq := ?_) (hl := ?_)
 ·rfl
 ·rfl
 ·show (refLL _ _ && (refLL _ _ && true)) = true
  rw [pureLL_ref (pureLL_opv _), pureLL_ref (pureLL_okv _)]
  rfl
 ·rw [hφ0]; exact Nat.le_refl _
end Go.Proofs.YtdcjlemkegifjaaGreat.Ab
