/- Walks of functions of the program, and the plain definitions. -/
import Derived.Test.YtimgfinlbhodhaaFwGg
namespace Go.Proofs.Ytimgfinlbhodhaa.Ab
open Go
set_option linter.unusedVariables false
set_option linter.unusedSimpArgs false
set_option maxHeartbeats 4000000
theorem inputsFor_ac (ps : List PG) (ks : List LK) (hs : List (List Int)) (p : Nat) (hc1 : netOk ps ks = true) (hc2 : hs.length ≤ ks.length) (hc3 : ks.length ≤ hs.length) (hc4 : hs.all strOk = true) (hc5 : p < ps.length) : AC Try.prog 126 [.agg [.row false 3 (ps.map pv), .row false 5 (ks.map kv)], .row false 1 (hs.map ivL), .int .i64 (p : Int)] (.row true 1 ((insK ps ks hs p).map ivL)) := by
 have hw0 := netOk_w hc1
 have hp12 := hw0.pl
 have hk30 := hw0.kl
 have hpb := pg_bd hw0.pg hc5
 have hi0 := hpb.1.1
 have hi3 := hpb.1.2
 clear hpb
 have hps : ps.length < 3518437208781 := by omega
 have hks : ks.length < 2513169434844 := by omega
 have hkw := net_KW hc1
 have hnw := net_NW hc1
 have hpiv := pureLL_ivL
 have hivl := ivL_eq
 have hb1 : (ps.getD p default).i ≤ 4611686018427387904 := by omega
 have hb2 : 24 * (ps.getD p default).i ≤ 140737488355328 := by omega
 have hpz : (p : Int) < (ps.length : Int) := by omega
 refine AC.of tab_ok Try.func126 rfl (Nat.le_of_ble_eq_true rfl) fun w0 S0 => ?_
 change G _ _ ⟨[(0, .agg [.row false 3 (ps.map pv), .row false 5 (ks.map kv)]), (1, .row false 1 (hs.map ivL)), (2, .int .i64 (p : Int))], [], 39⟩
 apply G.seq
 refine G.rg tab_ok (kof_nil _) (hk := ?_)
 apply G.seq
 refine G.rg tab_ok (kof_nil _) (hk := ?_)
 refine G.nilBlkR 1 (ps.getD p default).i.toNat rfl ?_
 simp only [withH, List.set_cons_succ, List.set_cons_zero]
 apply G.seq
 apply G.seq
 refine G.rg tab_ok (kof_nil _) (hk := ?_)
 apply G.block
 refine G.nm [1, 2, 7, 18, 19, 20] (h := ?_)
 refine G.loopX (fun j : Nat => ⟨[(1, .row false 1 (hs.map ivL)), (2, .int .i64 (p : Int)), (7, .sl 0 0 (ps.getD p default).i.toNat), (18, .row false 5 (ks.map kv)), (19, .int .i64 ks.length), (20, .int .i64 j)], [some (1, (putI ps ks hs p j).map ivL)], 39⟩) (fun j => j ≤ ks.length) (fun j => ks.length - j) (0) (Nat.zero_le _) (by simp [putI]) ?_
 intro j hj J hJ
 have hw : IntKind.i64.wrap ((j : Int) + 1) = (j : Int) + 1 := wrap64 (by omega) (by omega)
 have hpl := putI_len (ps := ps) (ks := ks) (hs := hs) (p := p) j
 apply G.seq
 refine G.rg tab_ok (kof_nil _) (hk := ?_)
 apply G.seq
 refine G.iff (h1 := fun h1 => ?_) (h2 := fun h1 => ?_)
 ·try simp only [zqz] at h1
  apply G.skip
  apply G.seq
  apply G.block
  apply G.seq
  have hjk : j < ks.length := by omega
  have hjh : j < hs.length := by omega
  refine G.rg tab_ok (kof_nil _) (hk := ?_)
  apply G.seq
  refine G.rg tab_ok (kof_nil _) (hk := ?_)
  refine G.fg [1, 2, 7, 8, 9, 18, 19, 20, 28, 29, 30, 31, 32, 33, 34, 35, 36] (hk := ?_)
  refine G.iff (h1 := fun h2 => ?_) (h2 := fun h2 => ?_)
  ·try simp only [zqz] at h2
   obtain ⟨e1, e2, e3⟩ := ends_to (linkOk_ends (hw0.lk j hjk)) (by omega)
   rw [h2, Int.toNat_natCast] at e3
   have e4 : (ks.getD j default).ip.toNat < (ps.getD p default).i.toNat := by omega
   have e5 : (ks.getD j default).ip < (((ps.getD p default).i.toNat : Nat) : Int) := by omega
   have e6 : (ks.getD j default).ip.toNat < (putI ps ks hs p j).length := by omega
   have hgt : (List.map ivL (putI ps ks hs p j))[(ks.getD j default).ip.toNat]? = some [.row false 1 (((putI ps ks hs p j).getD (ks.getD j default).ip.toNat default).map iv)] := by rw [List.getElem?_map, getD_some e6]; rfl
   have hset : (List.map ivL (putI ps ks hs p j)).set (ks.getD j default).ip.toNat [.row false 1 (List.map iv (hs.getD j default))] = ((putI ps ks hs p j).set (ks.getD j default).ip.toNat (hs.getD j default)).map ivL := by rw [List.map_set]; rfl
   clear e1
   refine G.dr mixed tab_ok (kof_nil _) [0, 1, 2, 3, 4, 5, 6, 7, 8] (hk := ?_)
   apply G.blk
   refine G.rg tab_ok (kof_nil _) (hk := ?_)
   refine G.nm [1, 2, 7, 18, 19, 20] (h := ?_)
   have hpe : putI ps ks hs p (j + 1) = if (ks.getD j default).to = (p : Int) then (putI ps ks hs p j).set (ks.getD j default).ip.toNat (hs.getD j default) else putI ps ks hs p j := rfl
   first
   | exact G.upto (hJ (j + 1) (by omega) (by omega)) (by rw [hpe, if_pos h2]; simp [ivL])
   | exact G.upto (hJ (j + 1) (by omega) (by omega)) (by rw [hpe, if_neg h2]; simp)
  ·try simp only [zqz] at h2
   apply G.skip
   apply G.blk
   refine G.rg tab_ok (kof_nil _) (hk := ?_)
   refine G.nm [1, 2, 7, 18, 19, 20] (h := ?_)
   have hpe : putI ps ks hs p (j + 1) = if (ks.getD j default).to = (p : Int) then (putI ps ks hs p j).set (ks.getD j default).ip.toNat (hs.getD j default) else putI ps ks hs p j := rfl
   first
   | exact G.upto (hJ (j + 1) (by omega) (by omega)) (by rw [hpe, if_pos h2]; simp [ivL])
   | exact G.upto (hJ (j + 1) (by omega) (by omega)) (by rw [hpe, if_neg h2]; simp)
 ·try simp only [zqz] at h1
  refine G.exit rfl ?_
  apply G.seq
  refine G.rg tab_ok (kof_nil _) (hk := ?_)
  obtain rfl : j = ks.length := by omega
  have hik := insK_len (hs := hs) hc1 hc5
  have hl1 : (ps.getD p default).i.toNat ≤ (insK ps ks hs p).length := by omega
  have hl2 : List.take (ps.getD p default).i.toNat ((insK ps ks hs p).map ivL) = (insK ps ks hs p).map ivL := List.take_of_length_le (by rw [List.length_map]; omega)
  clear hik hpl
  rw [putI_end hc1 hc5]
  refine G.fin tab_ok (hr := ?_)
  rfl
def r_inputsFor (xs0 : List A) (rr : A) : Prop := ∃ (ps : List PG) (ks : List LK) (hs : List (List Int)) (p : Nat), (netOk ps ks = true) ∧ (hs.length ≤ ks.length) ∧ (ks.length ≤ hs.length) ∧ (hs.all strOk = true) ∧ (p < ps.length) ∧ xs0 = [.agg [.row false 3 (ps.map pv), .row false 5 (ks.map kv)], .row false 1 (hs.map ivL), .int .i64 (p : Int)] ∧ rr = .row true 1 ((insK ps ks hs p).map ivL)
noncomputable def q_inputsFor : List A → Option A := kgr r_inputsFor
theorem k_inputsFor : KOk Try.prog (126, q_inputsFor) := kgr_ok (enters_of Try.func126 rfl rfl) (by rintro xs0 rr ⟨ps, ks, hs, p, hc1, hc2, hc3, hc4, hc5, rfl, rfl⟩; exact inputsFor_ac ps ks hs p hc1 hc2 hc3 hc4 hc5)
theorem e_inputsFor : ∀ (ps : List PG) (ks : List LK) (hs : List (List Int)) (p : Nat), (netOk ps ks = true) → (hs.length ≤ ks.length) → (ks.length ≤ hs.length) → (hs.all strOk = true) → (p < ps.length) → q_inputsFor [.agg [.row false 3 (ps.map pv), .row false 5 (ks.map kv)], .row false 1 (hs.map ivL), .int .i64 (p : Int)] = some (.row true 1 ((insK ps ks hs p).map ivL)) := by
 intro ps ks hs p hc1 hc2 hc3 hc4 hc5
 refine kgr_eq (fun xs0 rr r2 h h2 => ?_) ⟨ps, ks, hs, p, hc1, hc2, hc3, hc4, hc5, rfl, rfl⟩
 obtain ⟨ps1, ks1, hs1, p1, _, _, _, _, _, e1, rfl⟩ := h; obtain ⟨ps2, ks2, hs2, p2, _, _, _, _, _, e2, rfl⟩ := h2
 rw [e1] at e2
 simp only [List.cons.injEq, A.int.injEq, A.agg.injEq, A.row.injEq, pv_inj, kv_inj, ivL_inj, true_and, and_true, Int.natCast_inj] at e2
 obtain ⟨⟨e3, e4⟩, e5, e6⟩ := e2
 subst e3 e4 e5 e6
 rfl
theorem ok_l4Inputs : Kn.ok Try.prog (kof [(146, q_l3To)]) := kof_cons k_l3To ((kof_nil _))
theorem l4Inputs_ac (ps : List PG) (ks : List LK) (hs : List (List Int)) (p : Nat) (hc1 : netOk ps ks = true) (hc2 : hs.length ≤ ks.length) (hc3 : ks.length ≤ hs.length) (hc4 : hs.all strOk = true) (hc5 : p < ps.length) : AC Try.prog 155 [.agg [.row false 3 (ps.map pv), .row false 5 (ks.map kv)], .row false 1 (hs.map ivL), .int .i64 (p : Int)] (.row true 1 ((insK ps ks hs p).map ivL)) := by
 have e_l3To := e_l3To
 have hw0 := netOk_w hc1
 have hp12 := hw0.pl
 have hk30 := hw0.kl
 have hpb := pg_bd hw0.pg hc5
 have hi0 := hpb.1.1
 have hi3 := hpb.1.2
 clear hpb
 have hps : ps.length < 3518437208781 := by omega
 have hks : ks.length < 2513169434844 := by omega
 have hkw := net_KW hc1
 have hnw := net_NW hc1
 have hpiv := pureLL_ivL
 have hivl := ivL_eq
 have hpz : (p : Int) < (ps.length : Int) := by omega
 refine AC.of tab_ok Try.func155 rfl (Nat.le_of_ble_eq_true rfl) fun w0 S0 => ?_
 change G _ _ ⟨[(0, .agg [.row false 3 (ps.map pv), .row false 5 (ks.map kv)]), (1, .row false 1 (hs.map ivL)), (2, .int .i64 (p : Int))], [], 31⟩
 apply G.seq
 refine G.rg tab_ok ok_l4Inputs (hk := ?_)
 apply G.seq
 refine G.rg tab_ok ok_l4Inputs (hk := ?_)
 apply G.seq
 apply G.seq
 refine G.rg tab_ok ok_l4Inputs (hk := ?_)
 apply G.block
 refine G.nm [1, 2, 3, 7, 8] (h := ?_)
 refine G.loopX (fun j : Nat => ⟨[(1, .row false 1 (hs.map ivL)), (2, .int .i64 (p : Int)), (3, .ptr 0 0 0), (7, .sl 1 0 j), (8, .int .i64 j)], [some (2, [[.row false 3 (ps.map pv), .row false 5 (ks.map kv)]]), some (1, (insN ks hs p j).map ivL)], 31⟩) (fun j => (j : Int) ≤ (ps.getD p default).i) (fun j => (ps.getD p default).i.toNat - j) (0) (by omega) (by simp [insN]) ?_
 intro j hj J hJ
 have hw : IntKind.i64.wrap ((j : Int) + 1) = (j : Int) + 1 := wrap64 (by omega) (by omega)
 have hnl := insN_len (ks := ks) (hs := hs) (p := p) j
 have htn : List.take j ((insN ks hs p j).map ivL) = (insN ks hs p j).map ivL := List.take_of_length_le (by simp [insN_len])
 have hq1 : ((j + 1 : Nat) : Int) ≤ 4611686018427387904 := by omega
 have hq2 : (j + 1) * 24 ≤ 70368744177664 := by omega
 apply G.seq
 apply G.seq
 refine G.rg tab_ok ok_l4Inputs (hk := ?_)
 refine G.iff (h1 := fun h1 => ?_) (h2 := fun h1 => ?_)
 ·try simp only [zqz] at h1
  apply G.skip
  apply G.seq
  apply G.block
  have g0 := hw0.to p hc5 j h1
  obtain ⟨g1, g2, g3⟩ := onlyAt_at g0
  have g4 : (onlyAt (isTo p j) ks).toNat < hs.length := by omega
  have g5 : onlyAt (isTo p j) ks < (hs.length : Int) := by omega
  clear g2 g3
  have hap : (insN ks hs p j).map ivL ++ [[.row false 1 ((hs.getD (onlyAt (isTo p j) ks).toNat default).map iv)]] = (insN ks hs p (j + 1)).map ivL := by rw [← insN_succ, List.map_append]; rfl
  refine G.rg tab_ok ok_l4Inputs (hk := ?_)
  apply G.blk
  refine G.rg tab_ok ok_l4Inputs (hk := ?_)
  refine G.nm [1, 2, 3, 7, 8] (h := ?_)
  exact G.upto (hJ (j + 1) (by omega) (by omega)) (by simp [insN_len])
 ·try simp only [zqz] at h1
  refine G.exit rfl ?_
  apply G.seq
  refine G.rg tab_ok ok_l4Inputs (hk := ?_)
  obtain ⟨n, hn⟩ : ∃ n, (ps.getD p default).i.toNat = n := ⟨_, rfl⟩
  obtain rfl : j = n := by omega
  have hik : insK ps ks hs p = insN ks hs p j := by unfold insK; rw [hn]
  have hl1 : j ≤ (insN ks hs p j).length := by omega
  clear hnl
  refine G.fin tab_ok (hr := ?_)
  rw [hik]
  rfl
def r_l4Inputs (xs0 : List A) (rr : A) : Prop := ∃ (ps : List PG) (ks : List LK) (hs : List (List Int)) (p : Nat), (netOk ps ks = true) ∧ (hs.length ≤ ks.length) ∧ (ks.length ≤ hs.length) ∧ (hs.all strOk = true) ∧ (p < ps.length) ∧ xs0 = [.agg [.row false 3 (ps.map pv), .row false 5 (ks.map kv)], .row false 1 (hs.map ivL), .int .i64 (p : Int)] ∧ rr = .row true 1 ((insK ps ks hs p).map ivL)
noncomputable def q_l4Inputs : List A → Option A := kgr r_l4Inputs
theorem k_l4Inputs : KOk Try.prog (155, q_l4Inputs) := kgr_ok (enters_of Try.func155 rfl rfl) (by rintro xs0 rr ⟨ps, ks, hs, p, hc1, hc2, hc3, hc4, hc5, rfl, rfl⟩; exact l4Inputs_ac ps ks hs p hc1 hc2 hc3 hc4 hc5)
theorem e_l4Inputs : ∀ (ps : List PG) (ks : List LK) (hs : List (List Int)) (p : Nat), (netOk ps ks = true) → (hs.length ≤ ks.length) → (ks.length ≤ hs.length) → (hs.all strOk = true) → (p < ps.length) → q_l4Inputs [.agg [.row false 3 (ps.map pv), .row false 5 (ks.map kv)], .row false 1 (hs.map ivL), .int .i64 (p : Int)] = some (.row true 1 ((insK ps ks hs p).map ivL)) := by
 intro ps ks hs p hc1 hc2 hc3 hc4 hc5
 refine kgr_eq (fun xs0 rr r2 h h2 => ?_) ⟨ps, ks, hs, p, hc1, hc2, hc3, hc4, hc5, rfl, rfl⟩
 obtain ⟨ps1, ks1, hs1, p1, _, _, _, _, _, e1, rfl⟩ := h; obtain ⟨ps2, ks2, hs2, p2, _, _, _, _, _, e2, rfl⟩ := h2
 rw [e1] at e2
 simp only [List.cons.injEq, A.int.injEq, A.agg.injEq, A.row.injEq, pv_inj, kv_inj, ivL_inj, true_and, and_true, Int.natCast_inj] at e2
 obtain ⟨⟨e3, e4⟩, e5, e6⟩ := e2
 subst e3 e4 e5 e6
 rfl
theorem ok_eqFuncE : Kn.ok Try.prog (kof [(142, q_eqSl)]) := kof_cons k_eqSl ((kof_nil _))
theorem eqFuncE_ac (gs : List (List Int)) (hs : List (List Int)) (hc1 : gs.length < 5864062014805) (hc2 : LW gs) (hc3 : hs.length < 5864062014805) (hc4 : LW hs) : AC Try.prog 135 [.row false 1 (gs.map ivL), .row false 1 (hs.map ivL), .fn 142 []] (.bool (decide (gs = hs))) := by
 have e_eqSl := e_eqSl
 have hivl := ivL_eq
 refine AC.of tab_ok Try.func135 rfl (Nat.le_of_ble_eq_true rfl) fun w0 S0 => ?_
 change G _ _ ⟨[(0, .row false 1 (gs.map ivL)), (1, .row false 1 (hs.map ivL)), (2, .fn 142 [])], [], 32⟩
 apply G.seq
 refine G.rg tab_ok ok_eqFuncE (hk := ?_)
 apply G.seq
 apply G.seq
 refine G.rg tab_ok ok_eqFuncE (hk := ?_)
 refine G.iff (h1 := fun h1 => ?_) (h2 := fun h1 => ?_)
 ·try simp only [zqz] at h1
  apply G.seq
  refine G.rg tab_ok ok_eqFuncE (hk := ?_)
  refine G.fin tab_ok (hr := ?_)
  simp only [oneOrTup]
  congr 1
  symm
  rw [decide_eq_false_iff_not]
  intro e
  subst e
  exact h1 rfl
 ·try simp only [zqz] at h1
  apply G.skip
  apply G.seq
  apply G.seq
  have hle1 : gs.length ≤ hs.length := by omega
  have hle2 : hs.length ≤ gs.length := by omega
  clear h1
  refine G.rg tab_ok ok_eqFuncE (hk := ?_)
  apply G.block
  refine G.cn [1, 2, 15, 16, 17] [] (h := ?_)
  refine G.loopX (fun j : Nat => ⟨[(1, .row false 1 (hs.map ivL)), (2, .fn 142 []), (15, .row false 1 (gs.map ivL)), (16, .int .i64 gs.length), (17, .int .i64 j)], [], 32⟩) (fun j => j ≤ gs.length ∧ ∀ k < j, gs.getD k default = hs.getD k default) (fun j => gs.length - j) (0) (⟨Nat.zero_le _, by omega⟩) (by simp) ?_
  intro j hj J hJ
  obtain ⟨hj, hall⟩ := hj
  have hw : IntKind.i64.wrap ((j : Int) + 1) = (j : Int) + 1 := wrap64 (by omega) (by omega)
  apply G.seq
  refine G.rg tab_ok ok_eqFuncE (hk := ?_)
  apply G.seq
  refine G.iff (h1 := fun h2 => ?_) (h2 := fun h2 => ?_)
  ·try simp only [zqz] at h2
   apply G.skip
   apply G.seq
   apply G.block
   apply G.seq
   refine G.rg tab_ok ok_eqFuncE (hk := ?_)
   apply G.seq
   have hjh : j < hs.length := by omega
   have hlg : (gs.getD j default).length < 17592186044416 := hc2 _ (getD_mem0 h2)
   have hlh : (hs.getD j default).length < 17592186044416 := hc4 _ (getD_mem0 hjh)
   refine G.rg tab_ok ok_eqFuncE (hk := ?_)
   apply G.seq
   refine G.rg tab_ok ok_eqFuncE (hk := ?_)
   refine G.fg [1, 2, 15, 16, 17, 30] (hk := ?_)
   refine G.iff (h1 := fun h3 => ?_) (h2 := fun h3 => ?_)
   ·try simp only [zqz] at h3
    apply G.seq
    refine G.rg tab_ok ok_eqFuncE (hk := ?_)
    refine G.fin tab_ok (hr := ?_)
    simp only [oneOrTup]
    congr 1
    symm
    rw [decide_eq_false_iff_not]
    intro e
    subst e
    exact h3 rfl
   ·try simp only [zqz] at h3
    apply G.skip
    apply G.blk
    refine G.rg tab_ok ok_eqFuncE (hk := ?_)
    refine G.cn [1, 2, 15, 16, 17] [] (h := ?_)
    exact G.upto (hJ (j + 1) ⟨by omega, up_eq hall h3⟩ (by omega)) (by simp)
  ·try simp only [zqz] at h2
   refine G.exit rfl ?_
   apply G.seq
   refine G.rg tab_ok ok_eqFuncE (hk := ?_)
   refine G.fin tab_ok (hr := ?_)
   simp only [oneOrTup]
   congr 1
   symm
   rw [decide_eq_true_eq]
   exact geq_all (by omega) (fun k hk => hall k (by omega))
def r_eqFuncE (xs0 : List A) (rr : A) : Prop := ∃ (gs : List (List Int)) (hs : List (List Int)), (gs.length < 5864062014805) ∧ (LW gs) ∧ (hs.length < 5864062014805) ∧ (LW hs) ∧ xs0 = [.row false 1 (gs.map ivL), .row false 1 (hs.map ivL), .fn 142 []] ∧ rr = .bool (decide (gs = hs))
noncomputable def q_eqFuncE : List A → Option A := kgr r_eqFuncE
theorem k_eqFuncE : KOk Try.prog (135, q_eqFuncE) := kgr_ok (enters_of Try.func135 rfl rfl) (by rintro xs0 rr ⟨gs, hs, hc1, hc2, hc3, hc4, rfl, rfl⟩; exact eqFuncE_ac gs hs hc1 hc2 hc3 hc4)
theorem e_eqFuncE : ∀ (gs : List (List Int)) (hs : List (List Int)), (gs.length < 5864062014805) → (LW gs) → (hs.length < 5864062014805) → (LW hs) → q_eqFuncE [.row false 1 (gs.map ivL), .row false 1 (hs.map ivL), .fn 142 []] = some (.bool (decide (gs = hs))) := by
 intro gs hs hc1 hc2 hc3 hc4
 refine kgr_eq (fun xs0 rr r2 h h2 => ?_) ⟨gs, hs, hc1, hc2, hc3, hc4, rfl, rfl⟩
 obtain ⟨gs1, hs1, _, _, _, _, e1, rfl⟩ := h; obtain ⟨gs2, hs2, _, _, _, _, e2, rfl⟩ := h2
 rw [e1] at e2
 simp only [List.cons.injEq, A.int.injEq, A.agg.injEq, A.row.injEq, A.fn.injEq, ivL_inj, true_and, and_true] at e2
 obtain ⟨e3, e4⟩ := e2
 subst e3 e4
 rfl
theorem ok_equalStreams : Kn.ok Try.prog (kof [(135, q_eqFuncE)]) := kof_cons k_eqFuncE ((kof_nil _))
theorem equalStreams_ac (gs : List (List Int)) (hs : List (List Int)) (hc1 : gs.length < 5864062014805) (hc2 : LW gs) (hc3 : hs.length < 5864062014805) (hc4 : LW hs) : AC Try.prog 88 [.row false 1 (gs.map ivL), .row false 1 (hs.map ivL)] (.bool (decide (gs = hs))) := by
 have e_eqFuncE := e_eqFuncE
 refine AC.of tab_ok Try.func88 rfl (Nat.le_of_ble_eq_true rfl) fun w0 S0 => ?_
 change G _ _ ⟨[(0, .row false 1 (gs.map ivL)), (1, .row false 1 (hs.map ivL))], [], 8⟩
 apply G.seq
 refine G.rg tab_ok ok_equalStreams (hk := ?_)
 apply G.seq
 refine G.rg tab_ok ok_equalStreams (hk := ?_)
 refine G.fin tab_ok (hr := ?_)
 rfl
def r_equalStreams (xs0 : List A) (rr : A) : Prop := ∃ (gs : List (List Int)) (hs : List (List Int)), (gs.length < 5864062014805) ∧ (LW gs) ∧ (hs.length < 5864062014805) ∧ (LW hs) ∧ xs0 = [.row false 1 (gs.map ivL), .row false 1 (hs.map ivL)] ∧ rr = .bool (decide (gs = hs))
noncomputable def q_equalStreams : List A → Option A := kgr r_equalStreams
theorem k_equalStreams : KOk Try.prog (88, q_equalStreams) := kgr_ok (enters_of Try.func88 rfl rfl) (by rintro xs0 rr ⟨gs, hs, hc1, hc2, hc3, hc4, rfl, rfl⟩; exact equalStreams_ac gs hs hc1 hc2 hc3 hc4)
theorem e_equalStreams : ∀ (gs : List (List Int)) (hs : List (List Int)), (gs.length < 5864062014805) → (LW gs) → (hs.length < 5864062014805) → (LW hs) → q_equalStreams [.row false 1 (gs.map ivL), .row false 1 (hs.map ivL)] = some (.bool (decide (gs = hs))) := by
 intro gs hs hc1 hc2 hc3 hc4
 refine kgr_eq (fun xs0 rr r2 h h2 => ?_) ⟨gs, hs, hc1, hc2, hc3, hc4, rfl, rfl⟩
 obtain ⟨gs1, hs1, _, _, _, _, e1, rfl⟩ := h; obtain ⟨gs2, hs2, _, _, _, _, e2, rfl⟩ := h2
 rw [e1] at e2
 simp only [List.cons.injEq, A.int.injEq, A.agg.injEq, A.row.injEq, A.fn.injEq, ivL_inj, true_and, and_true] at e2
 obtain ⟨e3, e4⟩ := e2
 subst e3 e4
 rfl
theorem ok_l4Same : Kn.ok Try.prog (kof [(76, q_l1Begins)]) := kof_cons k_l1Begins ((kof_nil _))
theorem l4Same_ac (gs : List (List Int)) (hs : List (List Int)) (hc1 : gs.length < 5864062014805) (hc2 : LW gs) (hc3 : hs.length < 5864062014805) (hc4 : LW hs) : AC Try.prog 91 [.row false 1 (gs.map ivL), .row false 1 (hs.map ivL)] (.bool (decide (gs = hs))) := by
 have e_l1Begins := e_l1Begins
 have hivl := ivL_eq
 refine AC.of tab_ok Try.func91 rfl (Nat.le_of_ble_eq_true rfl) fun w0 S0 => ?_
 change G _ _ ⟨[(0, .row false 1 (gs.map ivL)), (1, .row false 1 (hs.map ivL))], [], 37⟩
 apply G.seq
 refine G.rg tab_ok ok_l4Same (hk := ?_)
 apply G.seq
 apply G.seq
 refine G.rg tab_ok ok_l4Same (hk := ?_)
 refine G.iff (h1 := fun h1 => ?_) (h2 := fun h1 => ?_)
 ·try simp only [zqz] at h1
  apply G.seq
  refine G.rg tab_ok ok_l4Same (hk := ?_)
  refine G.fin tab_ok (hr := ?_)
  simp only [oneOrTup]
  congr 1
  symm
  rw [decide_eq_false_iff_not]
  intro e
  subst e
  exact h1 rfl
 ·try simp only [zqz] at h1
  apply G.skip
  apply G.seq
  apply G.seq
  have hle1 : gs.length ≤ hs.length := by omega
  have hle2 : hs.length ≤ gs.length := by omega
  clear h1
  refine G.rg tab_ok ok_l4Same (hk := ?_)
  apply G.block
  refine G.cn [1, 12, 13, 14] [] (h := ?_)
  refine G.loopX (fun j : Nat => ⟨[(1, .row false 1 (hs.map ivL)), (12, .row false 1 (gs.map ivL)), (13, .int .i64 gs.length), (14, .int .i64 j)], [], 37⟩) (fun j => j ≤ gs.length ∧ ∀ k < j, gs.getD k default = hs.getD k default) (fun j => gs.length - j) (0) (⟨Nat.zero_le _, by omega⟩) (by simp) ?_
  intro j hj J hJ
  obtain ⟨hj, hall⟩ := hj
  have hw : IntKind.i64.wrap ((j : Int) + 1) = (j : Int) + 1 := wrap64 (by omega) (by omega)
  apply G.seq
  refine G.rg tab_ok ok_l4Same (hk := ?_)
  apply G.seq
  refine G.iff (h1 := fun h2 => ?_) (h2 := fun h2 => ?_)
  ·try simp only [zqz] at h2
   apply G.skip
   apply G.seq
   apply G.block
   apply G.seq
   refine G.rg tab_ok ok_l4Same (hk := ?_)
   apply G.seq
   have hjh : j < hs.length := by omega
   have hlg : (gs.getD j default).length < 17592186044416 := hc2 _ (getD_mem0 h2)
   have hlh : (hs.getD j default).length < 17592186044416 := hc4 _ (getD_mem0 hjh)
   refine G.rg tab_ok ok_l4Same (hk := ?_)
   refine G.fg [1, 12, 13, 14, 35] (hk := ?_)
   refine G.iff (h1 := fun h3 => ?_) (h2 := fun h3 => ?_)
   ·try simp only [zqz] at h3
    apply G.seq
    refine G.rg tab_ok ok_l4Same (hk := ?_)
    refine G.fin tab_ok (hr := ?_)
    simp only [oneOrTup]
    congr 1
    symm
    rw [decide_eq_false_iff_not]
    intro e
    exact same_no h3 (by rw [e])
   ·try simp only [zqz] at h3
    apply G.skip
    apply G.blk
    refine G.rg tab_ok ok_l4Same (hk := ?_)
    refine G.cn [1, 12, 13, 14] [] (h := ?_)
    exact G.upto (hJ (j + 1) ⟨by omega, up_eq hall (same_yes h3)⟩ (by omega)) (by simp)
  ·try simp only [zqz] at h2
   refine G.exit rfl ?_
   apply G.seq
   refine G.rg tab_ok ok_l4Same (hk := ?_)
   refine G.fin tab_ok (hr := ?_)
   simp only [oneOrTup]
   congr 1
   symm
   rw [decide_eq_true_eq]
   exact geq_all (by omega) (fun k hk => hall k (by omega))
def r_l4Same (xs0 : List A) (rr : A) : Prop := ∃ (gs : List (List Int)) (hs : List (List Int)), (gs.length < 5864062014805) ∧ (LW gs) ∧ (hs.length < 5864062014805) ∧ (LW hs) ∧ xs0 = [.row false 1 (gs.map ivL), .row false 1 (hs.map ivL)] ∧ rr = .bool (decide (gs = hs))
noncomputable def q_l4Same : List A → Option A := kgr r_l4Same
theorem k_l4Same : KOk Try.prog (91, q_l4Same) := kgr_ok (enters_of Try.func91 rfl rfl) (by rintro xs0 rr ⟨gs, hs, hc1, hc2, hc3, hc4, rfl, rfl⟩; exact l4Same_ac gs hs hc1 hc2 hc3 hc4)
theorem e_l4Same : ∀ (gs : List (List Int)) (hs : List (List Int)), (gs.length < 5864062014805) → (LW gs) → (hs.length < 5864062014805) → (LW hs) → q_l4Same [.row false 1 (gs.map ivL), .row false 1 (hs.map ivL)] = some (.bool (decide (gs = hs))) := by
 intro gs hs hc1 hc2 hc3 hc4
 refine kgr_eq (fun xs0 rr r2 h h2 => ?_) ⟨gs, hs, hc1, hc2, hc3, hc4, rfl, rfl⟩
 obtain ⟨gs1, hs1, _, _, _, _, e1, rfl⟩ := h; obtain ⟨gs2, hs2, _, _, _, _, e2, rfl⟩ := h2
 rw [e1] at e2
 simp only [List.cons.injEq, A.int.injEq, A.agg.injEq, A.row.injEq, A.fn.injEq, ivL_inj, true_and, and_true] at e2
 obtain ⟨e3, e4⟩ := e2
 subst e3 e4
 rfl
theorem ok_l4Round : Kn.ok Try.prog (kof [(155, q_l4Inputs), (81, q_l2Run), (154, q_l1Copy), (75, q_specIsStream)]) := kof_cons k_l4Inputs (kof_cons k_l2Run (kof_cons k_l1Copy (kof_cons k_specIsStream ((kof_nil _)))))
theorem l4Round_ac (ps : List PG) (ks : List LK) (hs : List (List Int)) (hc1 : netOk ps ks = true) (hc2 : hs.length ≤ ks.length) (hc3 : ks.length ≤ hs.length) (hc4 : hs.all strOk = true) : AC Try.prog 90 [.agg [.row false 3 (ps.map pv), .row false 5 (ks.map kv)], .row false 1 (hs.map ivL)] (.tup [.row true 1 ((rndO ps ks hs).1.map ovL), .bool (rndO ps ks hs).2]) := by
  have e_l4Inputs := e_l4Inputs
  have e_l2Run := e_l2Run
  have e_l1Copy := e_l1Copy
  have e_specIsStream := e_specIsStream
  have hw0 := netOk_w hc1
  have hp12 := hw0.pl
  have hk30 := hw0.kl
  have hps : ps.length < 3518437208781 := by omega
  have hks : ks.length < 2513169434844 := by omega
  have hkw := net_KW hc1
  have hnw := net_NW hc1
  have hsm := net_small hc1
  have hhl : hs.length = ks.length := by omega
  clear hhl
  clear e_l2Run
  have hivl := ivL_eq
  have hro := roLL_ovL
  have hpov := pureLL_ovL
  have hnov := noLoanLL_ovL
  have hriv := roLL_ivL
  have hpiv := pureLL_ivL
  have hoov := pureLL_oov
  have hnoo := noLoanLL_oov
  refine AC.of tab_ok Try.func90 rfl (Nat.le_of_ble_eq_true rfl) fun w0 S0 => ?_
  change G _ _ ⟨[(0, .agg [.row false 3 (ps.map pv), .row false 5 (ks.map kv)]), (1, .row false 1 (hs.map ivL))], [], 82⟩
  apply G.seq
  refine G.rg tab_ok ok_l4Round (hk := ?_)
  apply G.seq
  refine G.rg tab_ok ok_l4Round (hk := ?_)
  apply G.seq
  apply G.seq
  refine G.rg tab_ok ok_l4Round (hk := ?_)
  apply G.block
  refine G.nm [1, 2, 6, 19, 20, 21] (h := ?_)
  refine G.loopX (fun j : Nat => ⟨[(1, .row false 1 (hs.map ivL)), (2, .ptr 0 0 0), (6, .sl 1 0 j), (19, .row false 3 (ps.map pv)), (20, .int .i64 ps.length), (21, .int .i64 j)], [some (2, [[.row false 3 (ps.map pv), .row false 5 (ks.map kv)]]), some (1, (outsN ps ks hs j).map oov)], 82⟩) (fun j => j ≤ ps.length ∧ ∀ k < j, badR (runK ps ks hs k) = false) (fun j => ps.length - j) (0) (⟨Nat.zero_le _, by omega⟩) (by simp [outsN]) ?_
  intro j hj J hJ
  obtain ⟨hj, hall⟩ := hj
  have hw : IntKind.i64.wrap ((j : Int) + 1) = (j : Int) + 1 := wrap64 (by omega) (by omega)
  have hol := outsN_len (ps := ps) (ks := ks) (hs := hs) j
  have hot : List.take j ((outsN ps ks hs j).map oov) = (outsN ps ks hs j).map oov := List.take_of_length_le (by simp [outsN_len])
  have hq1 : ((j + 1 : Nat) : Int) ≤ 4611686018427387904 := by omega
  have hq2 : (j + 1) * 24 ≤ 70368744177664 := by omega
  apply G.seq
  refine G.rg tab_ok ok_l4Round (hk := ?_)
  apply G.seq
  refine G.iff (h1 := fun h1 => ?_) (h2 := fun h1 => ?_)
  · try simp only [zqz] at h1
    apply G.skip
    apply G.seq
    apply G.block
    apply G.seq
    refine G.rg tab_ok ok_l4Round (hk := ?_)
    apply G.seq
    have hjp : j < ps.length := by omega
    have e_run := e_l2Run (ps.getD j default).i (ps.getD j default).o (ps.getD j default).l (insK ps ks hs j) 3000 (pg_ok hc1 hjp) (insK_IW hc1 hjp (by omega) hc4) (by omega) (by omega)
    change q_l2Run _ = some (.tup [.row true 1 ((outK ps ks hs j).map ovL), .row true 1 ((runK ps ks hs j).1.used.map iv), .int .i64 (runK ps ks hs j).2.1, .int .i64 (runK ps ks hs j).2.2]) at e_run
    obtain ⟨U, hU⟩ : ∃ x, (runK ps ks hs j).1.used = x := ⟨_, rfl⟩
    obtain ⟨W, hW⟩ : ∃ x, (runK ps ks hs j).2.1 = x := ⟨_, rfl⟩
    rw [hU, hW] at e_run
    clear hU
    have hop : ((outK ps ks hs j).length : Int) = (ps.getD j default).o := (outK_bd hc1 hjp (by omega) hc4).1
    have hob := (pg_bd hw0.pg hjp).2.1
    have hoj : (outK ps ks hs j).length ≤ 3 := by omega
    clear hop hob
    refine G.dr mixed tab_ok ok_l4Round [0, 1, 2, 3, 4, 5, 6, 7, 8, 9, 10, 11, 12, 13, 14] (hk := ?_)
    apply G.seq
    apply G.seq
    have hbd1 : (W = 1 ∨ W = 3) → badR (runK ps ks hs j) = true := fun h => by unfold badR; rw [hW]; simpa using h
    have hbd0 : (¬ W = 1 ∧ ¬ W = 3) → badR (runK ps ks hs j) = false := fun h => by unfold badR; rw [hW]; simpa using h
    refine G.rg tab_ok ok_l4Round (hk := ?_)
    refine G.fg [1, 2, 6, 9, 19, 20, 21, 42] (hk := ?_)
    refine G.iff (h1 := fun h2 => ?_) (h2 := fun h2 => ?_)
    · try simp only [zqz] at h2
      apply G.seq
      refine G.rg tab_ok ok_l4Round (hk := ?_)
      refine G.nilRow 4 1 rfl ?_
      refine G.fin tab_ok (hr := ?_)
      rw [bad_run hjp (hbd1 h2)]
      rfl
    · try simp only [zqz] at h2
      apply G.skip
      have hgood : badR (runK ps ks hs j) = false := hbd0 h2
      clear hbd1 hbd0
      refine G.rg tab_ok ok_l4Round (hk := ?_)
      refine G.lastE 7 0 4 (f := oov) (l := outsN ps ks hs j) (outK ps ks hs j) rfl rfl rfl (by decide) (by simp) (pureLL_ovL _) rfl ?_
      rw [outsN_succ]
      apply G.blk
      refine G.rg tab_ok ok_l4Round (hk := ?_)
      refine G.nm [1, 2, 6, 19, 20, 21] (h := ?_)
      exact G.upto (hJ (j + 1) ⟨by omega, up_stepB hall hgood⟩ (by omega)) (by simp)
  · try simp only [zqz] at h1
    refine G.exit rfl ?_
    apply G.seq
    refine G.rg tab_ok ok_l4Round (hk := ?_)
    apply G.seq
    apply G.seq
    refine G.rg tab_ok ok_l4Round (hk := ?_)
    apply G.block
    have hrun : ∀ k < ps.length, badR (runK ps ks hs k) = false := fun k hk => hall k (by omega)
    obtain rfl : j = ps.length := by omega
    clear hall hJ hj hq1 hq2
    refine G.nm [2, 6, 13, 50, 51, 52] (h := ?_)
    refine G.loopX (fun j : Nat => ⟨[(2, .ptr 0 0 0), (6, .sl 1 0 ps.length), (13, .sl 2 0 j), (50, .row false 5 (ks.map kv)), (51, .int .i64 ks.length), (52, .int .i64 j)], [some (2, [[.row false 3 (ps.map pv), .row false 5 (ks.map kv)]]), some (1, (outsN ps ks hs ps.length).map oov), some (1, ((nxts ps ks hs).take j).map ovL)], 82⟩) (fun j => j ≤ ks.length ∧ ∀ k < j, strOk (nxtL ps ks hs (ks.getD k default)) = true) (fun j => ks.length - j) (0) (⟨Nat.zero_le _, by omega⟩) (by simp) ?_
    intro j hj J hJ
    obtain ⟨hj, hall⟩ := hj
    have hw : IntKind.i64.wrap ((j : Int) + 1) = (j : Int) + 1 := wrap64 (by omega) (by omega)
    apply G.seq
    refine G.rg tab_ok ok_l4Round (hk := ?_)
    apply G.seq
    refine G.iff (h1 := fun h3 => ?_) (h2 := fun h3 => ?_)
    · try simp only [zqz] at h3
      apply G.skip
      apply G.seq
      apply G.block
      apply G.seq
      have hjk : j < ks.length := by omega
      have hmj : min j (nxts ps ks hs).length = j := by rw [nxts_len]; omega
      have htk1 : List.take j (((nxts ps ks hs).take j).map ovL) = ((nxts ps ks hs).take j).map ovL := List.take_of_length_le (by simp; omega)
      have htj := nxts_snoc (ps := ps) (hs := hs) hjk
      have hlr : (ks.getD j default).tk.length ≤ 400 := hsm.2 j hjk
      have hlr2 : (ks.getD j default).tk.length < 17592186044416 := by omega
      have hlr3 : (ks.getD j default).tk.length ≤ 1048576 := by omega
      have hq1 : ((j + 1 : Nat) : Int) ≤ 4611686018427387904 := by omega
      have hq2 : (j + 1) * 24 ≤ 70368744177664 := by omega
      refine G.rg tab_ok ok_l4Round (hk := ?_)
      apply G.seq
      refine G.rg tab_ok ok_l4Round (hk := ?_)
      apply G.seq
      apply G.seq
      refine G.rg tab_ok ok_l4Round (hk := ?_)
      refine G.fg [2, 6, 13, 15, 16, 50, 51, 52, 61, 62, 63, 64, 65, 66, 67, 68, 69, 70, 71, 72] (hk := ?_)
      refine G.iff (h1 := fun h4 => ?_) (h2 := fun h4 => ?_)
      · try simp only [zqz] at h4
        obtain ⟨e1, e2, e3⟩ := ends_fr (linkOk_ends (hw0.lk j hjk)) h4
        have hop := outK_bd hc1 e1 (hs := hs) (by omega) hc4
        have e4 : (ks.getD j default).ou.toNat < (outK ps ks hs (ks.getD j default).fr.toNat).length := by omega
        have e5 : (ks.getD j default).ou < ((outK ps ks hs (ks.getD j default).fr.toNat).length : Int) := by omega
        have e6 : (ks.getD j default).fr < (ps.length : Int) := by omega
        have e7 := hop.2 _ (getD_mem0 e4)
        have e8 : (outsN ps ks hs ps.length).getD (ks.getD j default).fr.toNat default = outK ps ks hs (ks.getD j default).fr.toNat := outsN_get e1
        have e9 : (ks.getD j default).fr.toNat < (outsN ps ks hs ps.length).length := by rw [outsN_len]; exact e1
        have g0 : (0 : Int) ≤ (ks.getD j default).fr := h4
        clear hop e3
        obtain ⟨r, hr⟩ : ∃ x, (outK ps ks hs (ks.getD j default).fr.toNat).getD (ks.getD j default).ou.toNat default = x := ⟨_, rfl⟩
        obtain ⟨N, hN⟩ : ∃ x, nxtL ps ks hs (ks.getD j default) = x := ⟨_, rfl⟩
        have hN0 : (ks.getD j default).tk ++ r = N := by rw [← hN]; unfold nxtL; rw [if_pos h4, hr]
        have hNl : (ks.getD j default).tk.length + r.length = N.length := by rw [← hN0, List.length_append]
        have hNm : (ks.getD j default).tk.map iv ++ r.map iv = N.map iv := by rw [← hN0, List.map_append]
        have htjB : (nxts ps ks hs).take j ++ [N] = (nxts ps ks hs).take (j + 1) := by rw [← hN]; exact htj
        clear hN0
        rw [hr] at e7
        have g1 : ((N.length : Nat) : Int) ≤ 4611686018427387904 := by omega
        have g2 : N.length * 8 ≤ 70368744177664 := by omega
        have g3 : N.length < 17592186044416 := by omega
        have hge1 : ∀ a : List A, (((outsN ps ks hs ps.length).map oov).set (ks.getD j default).fr.toNat a)[(ks.getD j default).fr.toNat]? = some a := fun a => List.getElem?_set_self (by rw [List.length_map]; exact e9)
        have hrd1 : ∀ a : A, rdCells (((outsN ps ks hs ps.length).map oov).set (ks.getD j default).fr.toNat [a]) (ks.getD j default).fr.toNat 0 1 = some [a] := fun a => by simp only [rdCells, hge1]; rfl
        have hge2 : ∀ a : List A, (((outK ps ks hs (ks.getD j default).fr.toNat).map ovL).set (ks.getD j default).ou.toNat a)[(ks.getD j default).ou.toNat]? = some a := fun a => List.getElem?_set_self (by rw [List.length_map]; exact e4)
        have hrd2 : ∀ a : A, rdCells (((outK ps ks hs (ks.getD j default).fr.toNat).map ovL).set (ks.getD j default).ou.toNat [a]) (ks.getD j default).ou.toNat 0 1 = some [a] := fun a => by simp only [rdCells, hge2]; rfl
        have hs1 : (outK ps ks hs (ks.getD j default).fr.toNat).set (ks.getD j default).ou.toNat r = outK ps ks hs (ks.getD j default).fr.toNat := by rw [← hr]; exact set_getD e4
        have hs2 : (outsN ps ks hs ps.length).set (ks.getD j default).fr.toNat (outK ps ks hs (ks.getD j default).fr.toNat) = outsN ps ks hs ps.length := by rw [← e8]; exact set_getD e9
        refine G.focusE 1 (ks.getD j default).fr.toNat 0 (f := oov) (l := outsN ps ks hs ps.length) (sz' := 1) (es' := (outK ps ks hs (ks.getD j default).fr.toNat).map ovL) rfl e9 (by rw [e8]; rfl) ?_
        refine G.focusO 5 (ks.getD j default).ou.toNat (outs := outK ps ks hs (ks.getD j default).fr.toNat) rfl e4 ?_
        rw [hr]
        simp only [withH, List.set_cons_succ, List.set_cons_zero, List.nil_append, List.cons_append, List.length_cons, List.length_nil, List.length_map, Nat.zero_add, Nat.reduceAdd, oov_eq]
        refine G.dr mixed tab_ok ok_l4Round [0, 1, 2, 3, 4, 5, 6, 7, 8, 9, 10, 11] (hk := ?_)
        refine G.unfocusO 5 (ks.getD j default).ou.toNat 6 (r := r) rfl rfl (by decide) rfl e4 ?_
        rw [hs1]
        refine G.unfocusE 1 (ks.getD j default).fr.toNat 0 5 (f := oov) (l := outsN ps ks hs ps.length) (outK ps ks hs (ks.getD j default).fr.toNat) rfl e9 rfl rfl (by decide) (by simp) (pureLL_ovL _) rfl ?_
        rw [hs2]
        apply G.seq
        apply G.seq
        first
        | (have hNx := htjB)
        | (have hN : nxtL ps ks hs (ks.getD j default) = (ks.getD j default).tk := by unfold nxtL; rw [if_neg (by omega)]
           have htjB : (nxts ps ks hs).take j ++ [(ks.getD j default).tk] = (nxts ps ks hs).take (j + 1) := by rw [← hN]; exact htj)
        refine G.rg tab_ok ok_l4Round (hk := ?_)
        refine G.fg [2, 6, 13, 16, 50, 51, 52, 75] (hk := ?_)
        refine G.iff (h1 := fun h5 => ?_) (h2 := fun h5 => ?_)
        · try simp only [zqz] at h5
          apply G.seq
          refine G.rg tab_ok ok_l4Round (hk := ?_)
          refine G.nilRow 4 1 rfl ?_
          refine G.fin tab_ok (hr := ?_)
          rw [bad_str hjk (by first | exact h5 | (rw [hN]; exact h5))]
          rfl
        · try simp only [zqz] at h5
          apply G.skip
          refine G.rg tab_ok ok_l4Round (hk := ?_)
          first
          | (refine G.lastE 9 0 7 (f := ovL) (l := (nxts ps ks hs).take j) N rfl rfl rfl (by decide) (by simp) (pureLL_iv _) rfl ?_
             rw [htjB])
          | (refine G.lastE 6 0 4 (f := ovL) (l := (nxts ps ks hs).take j) ((ks.getD j default).tk) rfl rfl rfl (by decide) (by simp) (pureLL_iv _) rfl ?_
             rw [htjB])
          apply G.blk
          refine G.rg tab_ok ok_l4Round (hk := ?_)
          refine G.nm [2, 6, 13, 50, 51, 52] (h := ?_)
          exact G.upto (hJ (j + 1) ⟨by omega, up_step (p := fun k => strOk (nxtL ps ks hs (ks.getD k default))) hall (by first | exact h5 | (show strOk (nxtL ps ks hs (ks.getD j default)) = true; rw [hN]; exact h5))⟩ (by omega)) (by simp)
      · try simp only [zqz] at h4
        apply G.skip
        apply G.seq
        apply G.seq
        first
        | (have hNx := htjB)
        | (have hN : nxtL ps ks hs (ks.getD j default) = (ks.getD j default).tk := by unfold nxtL; rw [if_neg (by omega)]
           have htjB : (nxts ps ks hs).take j ++ [(ks.getD j default).tk] = (nxts ps ks hs).take (j + 1) := by rw [← hN]; exact htj)
        refine G.rg tab_ok ok_l4Round (hk := ?_)
        refine G.iff (h1 := fun h6 => ?_) (h2 := fun h6 => ?_)
        · try simp only [zqz] at h6
          apply G.seq
          refine G.rg tab_ok ok_l4Round (hk := ?_)
          refine G.nilRow 4 1 rfl ?_
          refine G.fin tab_ok (hr := ?_)
          rw [bad_str hjk (by first | exact h6 | (rw [hN]; exact h6))]
          rfl
        · try simp only [zqz] at h6
          apply G.skip
          refine G.rg tab_ok ok_l4Round (hk := ?_)
          first
          | (refine G.lastE 9 0 7 (f := ovL) (l := (nxts ps ks hs).take j) N rfl rfl rfl (by decide) (by simp) (pureLL_iv _) rfl ?_
             rw [htjB])
          | (refine G.lastE 6 0 4 (f := ovL) (l := (nxts ps ks hs).take j) ((ks.getD j default).tk) rfl rfl rfl (by decide) (by simp) (pureLL_iv _) rfl ?_
             rw [htjB])
          apply G.blk
          refine G.rg tab_ok ok_l4Round (hk := ?_)
          refine G.nm [2, 6, 13, 50, 51, 52] (h := ?_)
          exact G.upto (hJ (j + 1) ⟨by omega, up_step (p := fun k => strOk (nxtL ps ks hs (ks.getD k default))) hall (by first | exact h6 | (show strOk (nxtL ps ks hs (ks.getD j default)) = true; rw [hN]; exact h6))⟩ (by omega)) (by simp)
    · try simp only [zqz] at h3
      refine G.exit rfl ?_
      apply G.seq
      refine G.rg tab_ok ok_l4Round (hk := ?_)
      obtain rfl : j = ks.length := by omega
      have hft : List.take ks.length (nxts ps ks hs) = nxts ps ks hs := List.take_of_length_le (by rw [nxts_len]; exact Nat.le_refl _)
      rw [hft]
      have hl1 : ks.length ≤ (nxts ps ks hs).length := by rw [nxts_len]; exact Nat.le_refl _
      have hft2 : List.take ks.length ((nxts ps ks hs).map ovL) = (nxts ps ks hs).map ovL := List.take_of_length_le (by simp [nxts_len])
      refine G.fin tab_ok (hr := ?_)
      rw [good_rnd hrun (fun k hk => hall k (by omega))]
      rfl
def r_l4Round (xs0 : List A) (rr : A) : Prop := ∃ (ps : List PG) (ks : List LK) (hs : List (List Int)), (netOk ps ks = true) ∧ (hs.length ≤ ks.length) ∧ (ks.length ≤ hs.length) ∧ (hs.all strOk = true) ∧ xs0 = [.agg [.row false 3 (ps.map pv), .row false 5 (ks.map kv)], .row false 1 (hs.map ivL)] ∧ rr = .tup [.row true 1 ((rndO ps ks hs).1.map ovL), .bool (rndO ps ks hs).2]
noncomputable def q_l4Round : List A → Option A := kgr r_l4Round
theorem k_l4Round : KOk Try.prog (90, q_l4Round) := kgr_ok (enters_of Try.func90 rfl rfl) (by rintro xs0 rr ⟨ps, ks, hs, hc1, hc2, hc3, hc4, rfl, rfl⟩; exact l4Round_ac ps ks hs hc1 hc2 hc3 hc4)
theorem e_l4Round : ∀ (ps : List PG) (ks : List LK) (hs : List (List Int)), (netOk ps ks = true) → (hs.length ≤ ks.length) → (ks.length ≤ hs.length) → (hs.all strOk = true) → q_l4Round [.agg [.row false 3 (ps.map pv), .row false 5 (ks.map kv)], .row false 1 (hs.map ivL)] = some (.tup [.row true 1 ((rndO ps ks hs).1.map ovL), .bool (rndO ps ks hs).2]) := by
 intro ps ks hs hc1 hc2 hc3 hc4
 refine kgr_eq (fun xs0 rr r2 h h2 => ?_) ⟨ps, ks, hs, hc1, hc2, hc3, hc4, rfl, rfl⟩
 obtain ⟨ps1, ks1, hs1, _, _, _, _, e1, rfl⟩ := h; obtain ⟨ps2, ks2, hs2, _, _, _, _, e2, rfl⟩ := h2
 rw [e1] at e2
 simp only [List.cons.injEq, A.int.injEq, A.agg.injEq, A.row.injEq, pv_inj, kv_inj, ivL_inj, true_and, and_true] at e2
 obtain ⟨⟨e3, e4⟩, e5⟩ := e2
 subst e3 e4 e5
 rfl
theorem ok_round : Kn.ok Try.prog (kof [(126, q_inputsFor), (98, q_implAlone), (71, q_cloneInt), (97, q_implIsStream)]) := kof_cons k_inputsFor (kof_cons k_implAlone (kof_cons k_cloneInt (kof_cons k_implIsStream ((kof_nil _)))))
theorem round_ac (ps : List PG) (ks : List LK) (hs : List (List Int)) (hc1 : netOk ps ks = true) (hc2 : hs.length ≤ ks.length) (hc3 : ks.length ≤ hs.length) (hc4 : hs.all strOk = true) : AC Try.prog 87 [.agg [.row false 3 (ps.map pv), .row false 5 (ks.map kv)], .row false 1 (hs.map ivL)] (.tup [.row true 1 ((rndO ps ks hs).1.map ovL), .bool (rndO ps ks hs).2]) := by
  have e_inputsFor := e_inputsFor
  have e_implAlone := e_implAlone
  have e_cloneInt := e_cloneInt
  have e_implIsStream := e_implIsStream
  have hw0 := netOk_w hc1
  have hp12 := hw0.pl
  have hk30 := hw0.kl
  have hps : ps.length < 3518437208781 := by omega
  have hks : ks.length < 2513169434844 := by omega
  have hkw := net_KW hc1
  have hnw := net_NW hc1
  have hsm := net_small hc1
  have hhl : hs.length = ks.length := by omega
  clear hhl
  clear e_implAlone
  have hivl := ivL_eq
  have hro := roLL_ovL
  have hpov := pureLL_ovL
  have hnov := noLoanLL_ovL
  have hriv := roLL_ivL
  have hpiv := pureLL_ivL
  have hoov := pureLL_oov
  have hnoo := noLoanLL_oov
  refine AC.of tab_ok Try.func87 rfl (Nat.le_of_ble_eq_true rfl) fun w0 S0 => ?_
  change G _ _ ⟨[(0, .agg [.row false 3 (ps.map pv), .row false 5 (ks.map kv)]), (1, .row false 1 (hs.map ivL))], [], 82⟩
  apply G.seq
  refine G.rg tab_ok ok_round (hk := ?_)
  apply G.seq
  refine G.rg tab_ok ok_round (hk := ?_)
  apply G.seq
  apply G.seq
  refine G.rg tab_ok ok_round (hk := ?_)
  apply G.block
  refine G.nm [1, 2, 6, 19, 20, 21] (h := ?_)
  refine G.loopX (fun j : Nat => ⟨[(1, .row false 1 (hs.map ivL)), (2, .ptr 0 0 0), (6, .sl 1 0 j), (19, .row false 3 (ps.map pv)), (20, .int .i64 ps.length), (21, .int .i64 j)], [some (2, [[.row false 3 (ps.map pv), .row false 5 (ks.map kv)]]), some (1, (outsN ps ks hs j).map oov)], 82⟩) (fun j => j ≤ ps.length ∧ ∀ k < j, badR (runK ps ks hs k) = false) (fun j => ps.length - j) (0) (⟨Nat.zero_le _, by omega⟩) (by simp [outsN]) ?_
  intro j hj J hJ
  obtain ⟨hj, hall⟩ := hj
  have hw : IntKind.i64.wrap ((j : Int) + 1) = (j : Int) + 1 := wrap64 (by omega) (by omega)
  have hol := outsN_len (ps := ps) (ks := ks) (hs := hs) j
  have hot : List.take j ((outsN ps ks hs j).map oov) = (outsN ps ks hs j).map oov := List.take_of_length_le (by simp [outsN_len])
  have hq1 : ((j + 1 : Nat) : Int) ≤ 4611686018427387904 := by omega
  have hq2 : (j + 1) * 24 ≤ 70368744177664 := by omega
  apply G.seq
  refine G.rg tab_ok ok_round (hk := ?_)
  apply G.seq
  refine G.iff (h1 := fun h1 => ?_) (h2 := fun h1 => ?_)
  · try simp only [zqz] at h1
    apply G.skip
    apply G.seq
    apply G.block
    apply G.seq
    refine G.rg tab_ok ok_round (hk := ?_)
    apply G.seq
    have hjp : j < ps.length := by omega
    have e_run := e_implAlone (ps.getD j default).i (ps.getD j default).o (ps.getD j default).l (insK ps ks hs j) 3000 (pg_ok hc1 hjp) (insK_IW hc1 hjp (by omega) hc4) (by omega) (by omega)
    change q_implAlone _ = some (.tup [.row true 1 ((outK ps ks hs j).map ovL), .row true 1 ((runK ps ks hs j).1.used.map iv), .int .i64 (runK ps ks hs j).2.1, .int .i64 (runK ps ks hs j).2.2]) at e_run
    obtain ⟨U, hU⟩ : ∃ x, (runK ps ks hs j).1.used = x := ⟨_, rfl⟩
    obtain ⟨W, hW⟩ : ∃ x, (runK ps ks hs j).2.1 = x := ⟨_, rfl⟩
    rw [hU, hW] at e_run
    clear hU
    have hop : ((outK ps ks hs j).length : Int) = (ps.getD j default).o := (outK_bd hc1 hjp (by omega) hc4).1
    have hob := (pg_bd hw0.pg hjp).2.1
    have hoj : (outK ps ks hs j).length ≤ 3 := by omega
    clear hop hob
    refine G.dr mixed tab_ok ok_round [0, 1, 2, 3, 4, 5, 6, 7, 8, 9, 10, 11, 12, 13, 14] (hk := ?_)
    apply G.seq
    apply G.seq
    have hbd1 : (W = 1 ∨ W = 3) → badR (runK ps ks hs j) = true := fun h => by unfold badR; rw [hW]; simpa using h
    have hbd0 : (¬ W = 1 ∧ ¬ W = 3) → badR (runK ps ks hs j) = false := fun h => by unfold badR; rw [hW]; simpa using h
    refine G.rg tab_ok ok_round (hk := ?_)
    refine G.fg [1, 2, 6, 9, 19, 20, 21, 42] (hk := ?_)
    refine G.iff (h1 := fun h2 => ?_) (h2 := fun h2 => ?_)
    · try simp only [zqz] at h2
      apply G.seq
      refine G.rg tab_ok ok_round (hk := ?_)
      refine G.nilRow 4 1 rfl ?_
      refine G.fin tab_ok (hr := ?_)
      rw [bad_run hjp (hbd1 h2)]
      rfl
    · try simp only [zqz] at h2
      apply G.skip
      have hgood : badR (runK ps ks hs j) = false := hbd0 h2
      clear hbd1 hbd0
      refine G.rg tab_ok ok_round (hk := ?_)
      refine G.lastE 7 0 4 (f := oov) (l := outsN ps ks hs j) (outK ps ks hs j) rfl rfl rfl (by decide) (by simp) (pureLL_ovL _) rfl ?_
      rw [outsN_succ]
      apply G.blk
      refine G.rg tab_ok ok_round (hk := ?_)
      refine G.nm [1, 2, 6, 19, 20, 21] (h := ?_)
      exact G.upto (hJ (j + 1) ⟨by omega, up_stepB hall hgood⟩ (by omega)) (by simp)
  · try simp only [zqz] at h1
    refine G.exit rfl ?_
    apply G.seq
    refine G.rg tab_ok ok_round (hk := ?_)
    apply G.seq
    apply G.seq
    refine G.rg tab_ok ok_round (hk := ?_)
    apply G.block
    have hrun : ∀ k < ps.length, badR (runK ps ks hs k) = false := fun k hk => hall k (by omega)
    obtain rfl : j = ps.length := by omega
    clear hall hJ hj hq1 hq2
    refine G.nm [2, 6, 13, 50, 51, 52] (h := ?_)
    refine G.loopX (fun j : Nat => ⟨[(2, .ptr 0 0 0), (6, .sl 1 0 ps.length), (13, .sl 2 0 j), (50, .row false 5 (ks.map kv)), (51, .int .i64 ks.length), (52, .int .i64 j)], [some (2, [[.row false 3 (ps.map pv), .row false 5 (ks.map kv)]]), some (1, (outsN ps ks hs ps.length).map oov), some (1, ((nxts ps ks hs).take j).map ovL)], 82⟩) (fun j => j ≤ ks.length ∧ ∀ k < j, strOk (nxtL ps ks hs (ks.getD k default)) = true) (fun j => ks.length - j) (0) (⟨Nat.zero_le _, by omega⟩) (by simp) ?_
    intro j hj J hJ
    obtain ⟨hj, hall⟩ := hj
    have hw : IntKind.i64.wrap ((j : Int) + 1) = (j : Int) + 1 := wrap64 (by omega) (by omega)
    apply G.seq
    refine G.rg tab_ok ok_round (hk := ?_)
    apply G.seq
    refine G.iff (h1 := fun h3 => ?_) (h2 := fun h3 => ?_)
    · try simp only [zqz] at h3
      apply G.skip
      apply G.seq
      apply G.block
      apply G.seq
      have hjk : j < ks.length := by omega
      have hmj : min j (nxts ps ks hs).length = j := by rw [nxts_len]; omega
      have htk1 : List.take j (((nxts ps ks hs).take j).map ovL) = ((nxts ps ks hs).take j).map ovL := List.take_of_length_le (by simp; omega)
      have htj := nxts_snoc (ps := ps) (hs := hs) hjk
      have hlr : (ks.getD j default).tk.length ≤ 400 := hsm.2 j hjk
      have hlr2 : (ks.getD j default).tk.length < 17592186044416 := by omega
      have hlr3 : (ks.getD j default).tk.length ≤ 1048576 := by omega
      have hq1 : ((j + 1 : Nat) : Int) ≤ 4611686018427387904 := by omega
      have hq2 : (j + 1) * 24 ≤ 70368744177664 := by omega
      refine G.rg tab_ok ok_round (hk := ?_)
      apply G.seq
      refine G.rg tab_ok ok_round (hk := ?_)
      apply G.seq
      apply G.seq
      refine G.rg tab_ok ok_round (hk := ?_)
      refine G.fg [2, 6, 13, 15, 16, 50, 51, 52, 61, 62, 63, 64, 65, 66, 67, 68, 69, 70, 71, 72] (hk := ?_)
      refine G.iff (h1 := fun h4 => ?_) (h2 := fun h4 => ?_)
      · try simp only [zqz] at h4
        obtain ⟨e1, e2, e3⟩ := ends_fr (linkOk_ends (hw0.lk j hjk)) h4
        have hop := outK_bd hc1 e1 (hs := hs) (by omega) hc4
        have e4 : (ks.getD j default).ou.toNat < (outK ps ks hs (ks.getD j default).fr.toNat).length := by omega
        have e5 : (ks.getD j default).ou < ((outK ps ks hs (ks.getD j default).fr.toNat).length : Int) := by omega
        have e6 : (ks.getD j default).fr < (ps.length : Int) := by omega
        have e7 := hop.2 _ (getD_mem0 e4)
        have e8 : (outsN ps ks hs ps.length).getD (ks.getD j default).fr.toNat default = outK ps ks hs (ks.getD j default).fr.toNat := outsN_get e1
        have e9 : (ks.getD j default).fr.toNat < (outsN ps ks hs ps.length).length := by rw [outsN_len]; exact e1
        have g0 : (0 : Int) ≤ (ks.getD j default).fr := h4
        clear hop e3
        obtain ⟨r, hr⟩ : ∃ x, (outK ps ks hs (ks.getD j default).fr.toNat).getD (ks.getD j default).ou.toNat default = x := ⟨_, rfl⟩
        obtain ⟨N, hN⟩ : ∃ x, nxtL ps ks hs (ks.getD j default) = x := ⟨_, rfl⟩
        have hN0 : (ks.getD j default).tk ++ r = N := by rw [← hN]; unfold nxtL; rw [if_pos h4, hr]
        have hNl : (ks.getD j default).tk.length + r.length = N.length := by rw [← hN0, List.length_append]
        have hNm : (ks.getD j default).tk.map iv ++ r.map iv = N.map iv := by rw [← hN0, List.map_append]
        have htjB : (nxts ps ks hs).take j ++ [N] = (nxts ps ks hs).take (j + 1) := by rw [← hN]; exact htj
        clear hN0
        rw [hr] at e7
        have g1 : ((N.length : Nat) : Int) ≤ 4611686018427387904 := by omega
        have g2 : N.length * 8 ≤ 70368744177664 := by omega
        have g3 : N.length < 17592186044416 := by omega
        have hge1 : ∀ a : List A, (((outsN ps ks hs ps.length).map oov).set (ks.getD j default).fr.toNat a)[(ks.getD j default).fr.toNat]? = some a := fun a => List.getElem?_set_self (by rw [List.length_map]; exact e9)
        have hrd1 : ∀ a : A, rdCells (((outsN ps ks hs ps.length).map oov).set (ks.getD j default).fr.toNat [a]) (ks.getD j default).fr.toNat 0 1 = some [a] := fun a => by simp only [rdCells, hge1]; rfl
        have hge2 : ∀ a : List A, (((outK ps ks hs (ks.getD j default).fr.toNat).map ovL).set (ks.getD j default).ou.toNat a)[(ks.getD j default).ou.toNat]? = some a := fun a => List.getElem?_set_self (by rw [List.length_map]; exact e4)
        have hrd2 : ∀ a : A, rdCells (((outK ps ks hs (ks.getD j default).fr.toNat).map ovL).set (ks.getD j default).ou.toNat [a]) (ks.getD j default).ou.toNat 0 1 = some [a] := fun a => by simp only [rdCells, hge2]; rfl
        have hs1 : (outK ps ks hs (ks.getD j default).fr.toNat).set (ks.getD j default).ou.toNat r = outK ps ks hs (ks.getD j default).fr.toNat := by rw [← hr]; exact set_getD e4
        have hs2 : (outsN ps ks hs ps.length).set (ks.getD j default).fr.toNat (outK ps ks hs (ks.getD j default).fr.toNat) = outsN ps ks hs ps.length := by rw [← e8]; exact set_getD e9
        refine G.focusE 1 (ks.getD j default).fr.toNat 0 (f := oov) (l := outsN ps ks hs ps.length) (sz' := 1) (es' := (outK ps ks hs (ks.getD j default).fr.toNat).map ovL) rfl e9 (by rw [e8]; rfl) ?_
        refine G.focusO 5 (ks.getD j default).ou.toNat (outs := outK ps ks hs (ks.getD j default).fr.toNat) rfl e4 ?_
        rw [hr]
        simp only [withH, List.set_cons_succ, List.set_cons_zero, List.nil_append, List.cons_append, List.length_cons, List.length_nil, List.length_map, Nat.zero_add, Nat.reduceAdd, oov_eq]
        refine G.dr mixed tab_ok ok_round [0, 1, 2, 3, 4, 5, 6, 7, 8, 9, 10, 11] (hk := ?_)
        refine G.unfocusO 5 (ks.getD j default).ou.toNat 6 (r := r) rfl rfl (by decide) rfl e4 ?_
        rw [hs1]
        refine G.unfocusE 1 (ks.getD j default).fr.toNat 0 5 (f := oov) (l := outsN ps ks hs ps.length) (outK ps ks hs (ks.getD j default).fr.toNat) rfl e9 rfl rfl (by decide) (by simp) (pureLL_ovL _) rfl ?_
        rw [hs2]
        apply G.seq
        apply G.seq
        first
        | (have hNx := htjB)
        | (have hN : nxtL ps ks hs (ks.getD j default) = (ks.getD j default).tk := by unfold nxtL; rw [if_neg (by omega)]
           have htjB : (nxts ps ks hs).take j ++ [(ks.getD j default).tk] = (nxts ps ks hs).take (j + 1) := by rw [← hN]; exact htj)
        refine G.rg tab_ok ok_round (hk := ?_)
        refine G.fg [2, 6, 13, 16, 50, 51, 52, 75] (hk := ?_)
        refine G.iff (h1 := fun h5 => ?_) (h2 := fun h5 => ?_)
        · try simp only [zqz] at h5
          apply G.seq
          refine G.rg tab_ok ok_round (hk := ?_)
          refine G.nilRow 4 1 rfl ?_
          refine G.fin tab_ok (hr := ?_)
          rw [bad_str hjk (by first | exact h5 | (rw [hN]; exact h5))]
          rfl
        · try simp only [zqz] at h5
          apply G.skip
          refine G.rg tab_ok ok_round (hk := ?_)
          first
          | (refine G.lastE 9 0 7 (f := ovL) (l := (nxts ps ks hs).take j) N rfl rfl rfl (by decide) (by simp) (pureLL_iv _) rfl ?_
             rw [htjB])
          | (refine G.lastE 6 0 4 (f := ovL) (l := (nxts ps ks hs).take j) ((ks.getD j default).tk) rfl rfl rfl (by decide) (by simp) (pureLL_iv _) rfl ?_
             rw [htjB])
          apply G.blk
          refine G.rg tab_ok ok_round (hk := ?_)
          refine G.nm [2, 6, 13, 50, 51, 52] (h := ?_)
          exact G.upto (hJ (j + 1) ⟨by omega, up_step (p := fun k => strOk (nxtL ps ks hs (ks.getD k default))) hall (by first | exact h5 | (show strOk (nxtL ps ks hs (ks.getD j default)) = true; rw [hN]; exact h5))⟩ (by omega)) (by simp)
      · try simp only [zqz] at h4
        apply G.skip
        apply G.seq
        apply G.seq
        first
        | (have hNx := htjB)
        | (have hN : nxtL ps ks hs (ks.getD j default) = (ks.getD j default).tk := by unfold nxtL; rw [if_neg (by omega)]
           have htjB : (nxts ps ks hs).take j ++ [(ks.getD j default).tk] = (nxts ps ks hs).take (j + 1) := by rw [← hN]; exact htj)
        refine G.rg tab_ok ok_round (hk := ?_)
        refine G.iff (h1 := fun h6 => ?_) (h2 := fun h6 => ?_)
        · try simp only [zqz] at h6
          apply G.seq
          refine G.rg tab_ok ok_round (hk := ?_)
          refine G.nilRow 4 1 rfl ?_
          refine G.fin tab_ok (hr := ?_)
          rw [bad_str hjk (by first | exact h6 | (rw [hN]; exact h6))]
          rfl
        · try simp only [zqz] at h6
          apply G.skip
          refine G.rg tab_ok ok_round (hk := ?_)
          first
          | (refine G.lastE 9 0 7 (f := ovL) (l := (nxts ps ks hs).take j) N rfl rfl rfl (by decide) (by simp) (pureLL_iv _) rfl ?_
             rw [htjB])
          | (refine G.lastE 6 0 4 (f := ovL) (l := (nxts ps ks hs).take j) ((ks.getD j default).tk) rfl rfl rfl (by decide) (by simp) (pureLL_iv _) rfl ?_
             rw [htjB])
          apply G.blk
          refine G.rg tab_ok ok_round (hk := ?_)
          refine G.nm [2, 6, 13, 50, 51, 52] (h := ?_)
          exact G.upto (hJ (j + 1) ⟨by omega, up_step (p := fun k => strOk (nxtL ps ks hs (ks.getD k default))) hall (by first | exact h6 | (show strOk (nxtL ps ks hs (ks.getD j default)) = true; rw [hN]; exact h6))⟩ (by omega)) (by simp)
    · try simp only [zqz] at h3
      refine G.exit rfl ?_
      apply G.seq
      refine G.rg tab_ok ok_round (hk := ?_)
      obtain rfl : j = ks.length := by omega
      have hft : List.take ks.length (nxts ps ks hs) = nxts ps ks hs := List.take_of_length_le (by rw [nxts_len]; exact Nat.le_refl _)
      rw [hft]
      have hl1 : ks.length ≤ (nxts ps ks hs).length := by rw [nxts_len]; exact Nat.le_refl _
      have hft2 : List.take ks.length ((nxts ps ks hs).map ovL) = (nxts ps ks hs).map ovL := List.take_of_length_le (by simp [nxts_len])
      refine G.fin tab_ok (hr := ?_)
      rw [good_rnd hrun (fun k hk => hall k (by omega))]
      rfl
def r_round (xs0 : List A) (rr : A) : Prop := ∃ (ps : List PG) (ks : List LK) (hs : List (List Int)), (netOk ps ks = true) ∧ (hs.length ≤ ks.length) ∧ (ks.length ≤ hs.length) ∧ (hs.all strOk = true) ∧ xs0 = [.agg [.row false 3 (ps.map pv), .row false 5 (ks.map kv)], .row false 1 (hs.map ivL)] ∧ rr = .tup [.row true 1 ((rndO ps ks hs).1.map ovL), .bool (rndO ps ks hs).2]
noncomputable def q_round : List A → Option A := kgr r_round
theorem k_round : KOk Try.prog (87, q_round) := kgr_ok (enters_of Try.func87 rfl rfl) (by rintro xs0 rr ⟨ps, ks, hs, hc1, hc2, hc3, hc4, rfl, rfl⟩; exact round_ac ps ks hs hc1 hc2 hc3 hc4)
theorem e_round : ∀ (ps : List PG) (ks : List LK) (hs : List (List Int)), (netOk ps ks = true) → (hs.length ≤ ks.length) → (ks.length ≤ hs.length) → (hs.all strOk = true) → q_round [.agg [.row false 3 (ps.map pv), .row false 5 (ks.map kv)], .row false 1 (hs.map ivL)] = some (.tup [.row true 1 ((rndO ps ks hs).1.map ovL), .bool (rndO ps ks hs).2]) := by
 intro ps ks hs hc1 hc2 hc3 hc4
 refine kgr_eq (fun xs0 rr r2 h h2 => ?_) ⟨ps, ks, hs, hc1, hc2, hc3, hc4, rfl, rfl⟩
 obtain ⟨ps1, ks1, hs1, _, _, _, _, e1, rfl⟩ := h; obtain ⟨ps2, ks2, hs2, _, _, _, _, e2, rfl⟩ := h2
 rw [e1] at e2
 simp only [List.cons.injEq, A.int.injEq, A.agg.injEq, A.row.injEq, pv_inj, kv_inj, ivL_inj, true_and, and_true] at e2
 obtain ⟨⟨e3, e4⟩, e5⟩ := e2
 subst e3 e4 e5
 rfl
-- not in this seat: specRoundOf
theorem ok_specLeastStreams : Kn.ok Try.prog (kof [(72, q_specIsNetwork), (89, q_l4Tokens), (90, q_l4Round), (91, q_l4Same)]) := kof_cons k_specIsNetwork (kof_cons k_l4Tokens (kof_cons k_l4Round (kof_cons k_l4Same ((kof_nil _)))))
theorem specLeastStreams_ac (ps : List PG) (ks : List LK) (hc1 : NW ps) (hc2 : KW ks) (hc3 : ps.length < 3518437208781) (hc4 : ks.length < 2513169434844) : AC Try.prog 25 [.agg [.row false 3 (ps.map pv), .row false 5 (ks.map kv)]] (.tup [.row true 1 ((leastO ps ks).1.map ovL), .int .i64 (leastO ps ks).2.1, .bool (leastO ps ks).2.2]) := by
 have e_specIsNetwork := e_specIsNetwork
 have e_l4Tokens := e_l4Tokens
 have e_l4Round := e_l4Round
 have e_l4Same := e_l4Same
 have hivl := ivL_eq
 have hro := roLL_ovL
 have hpov := pureLL_ovL
 have hnov := noLoanLL_ovL
 have hfou : ∀ x : List (List Int), List.take x.length (List.map ovL x) = List.map ovL x := fun x => List.take_of_length_le (by simp)
 refine AC.of tab_ok Try.func25 rfl (Nat.le_of_ble_eq_true rfl) fun w0 S0 => ?_
 change G _ _ ⟨[(0, .agg [.row false 3 (ps.map pv), .row false 5 (ks.map kv)])], [], 32⟩
 apply G.seq
 refine G.rg tab_ok ok_specLeastStreams (hk := ?_)
 apply G.seq
 apply G.seq
 refine G.rg tab_ok ok_specLeastStreams (hk := ?_)
 refine G.iff (h1 := fun h1 => ?_) (h2 := fun h1 => ?_)
 ·try simp only [zqz] at h1
  apply G.seq
  refine G.rg tab_ok ok_specLeastStreams (hk := ?_)
  refine G.nilRow 2 1 rfl ?_
  refine G.fin tab_ok (hr := ?_)
  simp only [oneOrTup, leastO, h1]
  rfl
 ·try simp only [zqz] at h1
  apply G.skip
  apply G.seq
  have hn1 : netOk ps ks = true := h1
  have hk30 := (netOk_w hn1).kl
  refine G.rg tab_ok ok_specLeastStreams (hk := ?_)
  apply G.seq
  apply G.seq
  refine G.rg tab_ok ok_specLeastStreams (hk := ?_)
  apply G.block
  obtain ⟨R, hR⟩ : ∃ x, leastG ps ks 300 (tkL ks) = x := ⟨_, rfl⟩
  have hlo : leastO ps ks = R := by unfold leastO; rw [if_pos hn1, hR]
  refine G.nm [1, 5, 6] (h := ?_)
  refine G.loopX (fun x : List (List Int) × Nat => ⟨[(1, .ptr 0 0 0), (5, .sl 1 0 x.1.length), (6, .int .i64 (301 - (x.2 : Nat)))], [some (2, [[.row false 3 (ps.map pv), .row false 5 (ks.map kv)]]), some (1, x.1.map ovL)], 32⟩) (fun x => x.1.length ≤ ks.length ∧ ks.length ≤ x.1.length ∧ x.1.all strOk = true ∧ leastG ps ks x.2 x.1 = R ∧ x.2 ≤ 300) (fun x => x.2) ((tkL ks, 300)) (⟨by rw [tkL_len]; exact Nat.le_refl _, by rw [tkL_len]; exact Nat.le_refl _, tkL_all hn1, hR, Nat.le_refl _⟩) (by simp) ?_
  intro x hx J2 hJ
  obtain ⟨h, n⟩ := x
  simp only at hx ⊢
  obtain ⟨x1, x2, x3, x4, x5⟩ := hx
  have hhl : h.length ≤ 30 := by omega
  have hhL : LW h := all_LW x3
  have hhB : h.length < 5864062014805 := by omega
  have hwn : IntKind.i64.wrap (301 - (n : Int) + 1) = 301 - (n : Int) + 1 := wrap64 (by omega) (by omega)
  obtain ⟨r, hr⟩ : ∃ x, rndO ps ks h = x := ⟨_, rfl⟩
  have hrl : r.1.length ≤ ks.length := by rw [← hr]; exact rnd_le h
  have hra : r.1.all strOk = true := by rw [← hr]; exact rnd_all h
  have hrL : LW r.1 := all_LW hra
  have hrB : r.1.length < 5864062014805 := by omega
  apply G.seq
  apply G.seq
  refine G.rg tab_ok ok_specLeastStreams (hk := ?_)
  refine G.iff (h1 := fun h2 => ?_) (h2 := fun h2 => ?_)
  ·try simp only [zqz] at h2
   apply G.skip
   apply G.seq
   apply G.block
   apply G.seq
   refine G.rg tab_ok ok_specLeastStreams (hk := ?_)
   apply G.seq
   apply G.seq
   refine G.rg tab_ok ok_specLeastStreams (hk := ?_)
   refine G.fg [1, 5, 6, 7, 25] (hk := ?_)
   refine G.iff (h1 := fun h3 => ?_) (h2 := fun h3 => ?_)
   ·try simp only [zqz] at h3
    apply G.seq
    refine G.rg tab_ok ok_specLeastStreams (hk := ?_)
    refine G.nilRow 2 1 rfl ?_
    refine G.fin tab_ok (hr := ?_)
    rw [hlo, ← x4, least_bad (by omega) (by rw [hr]; exact h3)]
    rfl
   ·try simp only [zqz] at h3
    apply G.skip
    apply G.seq
    apply G.seq
    refine G.rg tab_ok ok_specLeastStreams (hk := ?_)
    refine G.iff (h1 := fun h4 => ?_) (h2 := fun h4 => ?_)
    ·try simp only [zqz] at h4
     apply G.seq
     refine G.rg tab_ok ok_specLeastStreams (hk := ?_)
     refine G.fin tab_ok (hr := ?_)
     rw [hlo, ← x4, least_fix (by omega) (by rw [hr]; exact h3) (by rw [hr]; exact h4)]
     simp only [oneOrTup, hfou]
    ·try simp only [zqz] at h4
     apply G.skip
     refine G.rg tab_ok ok_specLeastStreams (hk := ?_)
     apply G.blk
     refine G.rg tab_ok ok_specLeastStreams (hk := ?_)
     refine G.nm [1, 5, 6] (h := ?_)
     have hlen : r.1.length = ks.length := by rw [← hr]; exact rnd_len (by rw [hr]; exact h3)
     have hgo : leastG ps ks (n - 1) r.1 = R := by have e := least_go (ps := ps) (ks := ks) (n := n) (h := h) (by omega) (by rw [hr]; exact h3) (by rw [hr]; exact h4); rw [hr, x4] at e; exact e.symm
     exact G.upto (hJ (r.1, n - 1) ⟨hrl, by show ks.length ≤ r.1.length; omega, hra, hgo, by simp only; omega⟩ (by simp only; omega)) (by simp; omega)
  ·try simp only [zqz] at h2
   refine G.exit rfl ?_
   apply G.seq
   refine G.rg tab_ok ok_specLeastStreams (hk := ?_)
   refine G.nilRow 2 1 rfl ?_
   refine G.fin tab_ok (hr := ?_)
   obtain rfl : n = 0 := by omega
   rw [hlo, ← x4]
   rfl
def r_specLeastStreams (xs0 : List A) (rr : A) : Prop := ∃ (ps : List PG) (ks : List LK), (NW ps) ∧ (KW ks) ∧ (ps.length < 3518437208781) ∧ (ks.length < 2513169434844) ∧ xs0 = [.agg [.row false 3 (ps.map pv), .row false 5 (ks.map kv)]] ∧ rr = .tup [.row true 1 ((leastO ps ks).1.map ovL), .int .i64 (leastO ps ks).2.1, .bool (leastO ps ks).2.2]
noncomputable def q_specLeastStreams : List A → Option A := kgr r_specLeastStreams
theorem k_specLeastStreams : KOk Try.prog (25, q_specLeastStreams) := kgr_ok (enters_of Try.func25 rfl rfl) (by rintro xs0 rr ⟨ps, ks, hc1, hc2, hc3, hc4, rfl, rfl⟩; exact specLeastStreams_ac ps ks hc1 hc2 hc3 hc4)
theorem e_specLeastStreams : ∀ (ps : List PG) (ks : List LK), (NW ps) → (KW ks) → (ps.length < 3518437208781) → (ks.length < 2513169434844) → q_specLeastStreams [.agg [.row false 3 (ps.map pv), .row false 5 (ks.map kv)]] = some (.tup [.row true 1 ((leastO ps ks).1.map ovL), .int .i64 (leastO ps ks).2.1, .bool (leastO ps ks).2.2]) := by
 intro ps ks hc1 hc2 hc3 hc4
 refine kgr_eq (fun xs0 rr r2 h h2 => ?_) ⟨ps, ks, hc1, hc2, hc3, hc4, rfl, rfl⟩
 obtain ⟨ps1, ks1, _, _, _, _, e1, rfl⟩ := h; obtain ⟨ps2, ks2, _, _, _, _, e2, rfl⟩ := h2
 rw [e1] at e2
 simp only [List.cons.injEq, A.int.injEq, A.bool.injEq, A.agg.injEq, A.row.injEq, pv_inj, kv_inj, true_and, and_true] at e2
 obtain ⟨e3, e4⟩ := e2
 subst e3 e4
 rfl
theorem ok_implLeastStreams : Kn.ok Try.prog (kof [(70, q_implIsNetwork), (71, q_cloneInt), (87, q_round), (88, q_equalStreams)]) := kof_cons k_implIsNetwork (kof_cons k_cloneInt (kof_cons k_round (kof_cons k_equalStreams ((kof_nil _)))))
theorem implLeastStreams_ac (ps : List PG) (ks : List LK) (hc1 : NW ps) (hc2 : KW ks) (hc3 : ps.length < 3518437208781) (hc4 : ks.length < 2513169434844) : AC Try.prog 24 [.agg [.row false 3 (ps.map pv), .row false 5 (ks.map kv)]] (.tup [.row true 1 ((leastO ps ks).1.map ovL), .int .i64 (leastO ps ks).2.1, .bool (leastO ps ks).2.2]) := by
 have e_implIsNetwork := e_implIsNetwork
 have e_cloneInt := e_cloneInt
 have e_round := e_round
 have e_equalStreams := e_equalStreams
 have hivl := ivL_eq
 have hro := roLL_ovL
 have hpov := pureLL_ovL
 have hnov := noLoanLL_ovL
 have hfou : ∀ x : List (List Int), List.take x.length (List.map ovL x) = List.map ovL x := fun x => List.take_of_length_le (by simp)
 refine AC.of tab_ok Try.func24 rfl (Nat.le_of_ble_eq_true rfl) fun w0 S0 => ?_
 change G _ _ ⟨[(0, .agg [.row false 3 (ps.map pv), .row false 5 (ks.map kv)])], [], 47⟩
 apply G.seq
 refine G.rg tab_ok ok_implLeastStreams (hk := ?_)
 apply G.seq
 apply G.seq
 refine G.rg tab_ok ok_implLeastStreams (hk := ?_)
 refine G.iff (h1 := fun h1 => ?_) (h2 := fun h1 => ?_)
 ·try simp only [zqz] at h1
  apply G.seq
  refine G.rg tab_ok ok_implLeastStreams (hk := ?_)
  refine G.nilRow 2 1 rfl ?_
  refine G.fin tab_ok (hr := ?_)
  simp only [oneOrTup, leastO, h1]
  rfl
 ·try simp only [zqz] at h1
  apply G.skip
  apply G.seq
  have hn1 : netOk ps ks = true := h1
  have hk30 := (netOk_w hn1).kl
  have hsm := net_small hn1
  refine G.rg tab_ok ok_implLeastStreams (hk := ?_)
  apply G.seq
  apply G.seq
  refine G.rg tab_ok ok_implLeastStreams (hk := ?_)
  apply G.block
  refine G.nm [1, 5, 16, 17, 18] (h := ?_)
  refine G.loopX (fun j : Nat => ⟨[(1, .ptr 0 0 0), (5, .sl 1 0 j), (16, .row false 5 (ks.map kv)), (17, .int .i64 ks.length), (18, .int .i64 j)], [some (2, [[.row false 3 (ps.map pv), .row false 5 (ks.map kv)]]), some (1, ((tkL ks).take j).map ovL)], 47⟩) (fun j => j ≤ ks.length) (fun j => ks.length - j) (0) (Nat.zero_le _) (by simp) ?_
  intro j hj J hJ
  have hw : IntKind.i64.wrap ((j : Int) + 1) = (j : Int) + 1 := wrap64 (by omega) (by omega)
  apply G.seq
  refine G.rg tab_ok ok_implLeastStreams (hk := ?_)
  apply G.seq
  refine G.iff (h1 := fun h2 => ?_) (h2 := fun h2 => ?_)
  ·try simp only [zqz] at h2
   apply G.skip
   apply G.seq
   apply G.block
   apply G.seq
   have hmj : min j (tkL ks).length = j := by rw [tkL_len]; omega
   have htk1 : List.take j (((tkL ks).take j).map ovL) = ((tkL ks).take j).map ovL := List.take_of_length_le (by simp; omega)
   have htj := tkL_snoc (ks := ks) (j := j) (by omega)
   have hlr : (ks.getD j default).tk.length ≤ 1048576 := by have := hsm.2 j (by omega); omega
   have hq1 : ((j + 1 : Nat) : Int) ≤ 4611686018427387904 := by omega
   have hq2 : (j + 1) * 24 ≤ 70368744177664 := by omega
   refine G.rg tab_ok ok_implLeastStreams (hk := ?_)
   refine G.rg tab_ok ok_implLeastStreams (hk := ?_)
   refine G.lastE 5 0 3 (f := ovL) (l := (tkL ks).take j) ((ks.getD j default).tk) rfl rfl rfl (by decide) (by simp) (pureLL_iv _) rfl ?_
   rw [htj]
   apply G.blk
   refine G.rg tab_ok ok_implLeastStreams (hk := ?_)
   refine G.nm [1, 5, 16, 17, 18] (h := ?_)
   exact G.upto (hJ (j + 1) (by omega) (by omega)) (by simp)
  ·try simp only [zqz] at h2
   refine G.exit rfl ?_
   apply G.seq
   apply G.seq
   refine G.rg tab_ok ok_implLeastStreams (hk := ?_)
   apply G.block
   obtain ⟨R, hR⟩ : ∃ x, leastG ps ks 300 (tkL ks) = x := ⟨_, rfl⟩
   have hlo : leastO ps ks = R := by unfold leastO; rw [if_pos hn1, hR]
   obtain rfl : j = ks.length := by omega
   have hft : List.take ks.length (tkL ks) = tkL ks := List.take_of_length_le (by rw [tkL_len]; exact Nat.le_refl _)
   rw [hft]
   clear hJ hj
   refine G.nm [1, 5, 8] (h := ?_)
   refine G.loopX (fun x : List (List Int) × Nat => ⟨[(1, .ptr 0 0 0), (5, .sl 1 0 x.1.length), (8, .int .i64 (301 - (x.2 : Nat)))], [some (2, [[.row false 3 (ps.map pv), .row false 5 (ks.map kv)]]), some (1, x.1.map ovL)], 47⟩) (fun x => x.1.length ≤ ks.length ∧ ks.length ≤ x.1.length ∧ x.1.all strOk = true ∧ leastG ps ks x.2 x.1 = R ∧ x.2 ≤ 300) (fun x => x.2) ((tkL ks, 300)) (⟨by rw [tkL_len]; exact Nat.le_refl _, by rw [tkL_len]; exact Nat.le_refl _, tkL_all hn1, hR, Nat.le_refl _⟩) (by simp [tkL_len]) ?_
   intro x hx J2 hJ
   obtain ⟨h, n⟩ := x
   simp only at hx ⊢
   obtain ⟨x1, x2, x3, x4, x5⟩ := hx
   have hhl : h.length ≤ 30 := by omega
   have hhL : LW h := all_LW x3
   have hhB : h.length < 5864062014805 := by omega
   have hwn : IntKind.i64.wrap (301 - (n : Int) + 1) = 301 - (n : Int) + 1 := wrap64 (by omega) (by omega)
   obtain ⟨r, hr⟩ : ∃ x, rndO ps ks h = x := ⟨_, rfl⟩
   have hrl : r.1.length ≤ ks.length := by rw [← hr]; exact rnd_le h
   have hra : r.1.all strOk = true := by rw [← hr]; exact rnd_all h
   have hrL : LW r.1 := all_LW hra
   have hrB : r.1.length < 5864062014805 := by omega
   apply G.seq
   apply G.seq
   refine G.rg tab_ok ok_implLeastStreams (hk := ?_)
   refine G.iff (h1 := fun h3 => ?_) (h2 := fun h3 => ?_)
   ·try simp only [zqz] at h3
    apply G.skip
    apply G.seq
    apply G.block
    apply G.seq
    refine G.rg tab_ok ok_implLeastStreams (hk := ?_)
    apply G.seq
    apply G.seq
    refine G.rg tab_ok ok_implLeastStreams (hk := ?_)
    refine G.fg [1, 5, 8, 9, 40] (hk := ?_)
    refine G.iff (h1 := fun h4 => ?_) (h2 := fun h4 => ?_)
    ·try simp only [zqz] at h4
     apply G.seq
     refine G.rg tab_ok ok_implLeastStreams (hk := ?_)
     refine G.nilRow 2 1 rfl ?_
     refine G.fin tab_ok (hr := ?_)
     rw [hlo, ← x4, least_bad (by omega) (by rw [hr]; exact h4)]
     rfl
    ·try simp only [zqz] at h4
     apply G.skip
     apply G.seq
     apply G.seq
     refine G.rg tab_ok ok_implLeastStreams (hk := ?_)
     refine G.iff (h1 := fun h5 => ?_) (h2 := fun h5 => ?_)
     ·try simp only [zqz] at h5
      apply G.seq
      refine G.rg tab_ok ok_implLeastStreams (hk := ?_)
      refine G.fin tab_ok (hr := ?_)
      rw [hlo, ← x4, least_fix (by omega) (by rw [hr]; exact h4) (by rw [hr]; exact h5)]
      simp only [oneOrTup, hfou]
     ·try simp only [zqz] at h5
      apply G.skip
      refine G.rg tab_ok ok_implLeastStreams (hk := ?_)
      apply G.blk
      refine G.rg tab_ok ok_implLeastStreams (hk := ?_)
      refine G.nm [1, 5, 8] (h := ?_)
      have hlen : r.1.length = ks.length := by rw [← hr]; exact rnd_len (by rw [hr]; exact h4)
      have hgo : leastG ps ks (n - 1) r.1 = R := by have e := least_go (ps := ps) (ks := ks) (n := n) (h := h) (by omega) (by rw [hr]; exact h4) (by rw [hr]; exact h5); rw [hr, x4] at e; exact e.symm
      exact G.upto (hJ (r.1, n - 1) ⟨hrl, by show ks.length ≤ r.1.length; omega, hra, hgo, by simp only; omega⟩ (by simp only; omega)) (by simp; omega)
   ·try simp only [zqz] at h3
    refine G.exit rfl ?_
    apply G.seq
    refine G.rg tab_ok ok_implLeastStreams (hk := ?_)
    refine G.nilRow 2 1 rfl ?_
    refine G.fin tab_ok (hr := ?_)
    obtain rfl : n = 0 := by omega
    rw [hlo, ← x4]
    rfl
def r_implLeastStreams (xs0 : List A) (rr : A) : Prop := ∃ (ps : List PG) (ks : List LK), (NW ps) ∧ (KW ks) ∧ (ps.length < 3518437208781) ∧ (ks.length < 2513169434844) ∧ xs0 = [.agg [.row false 3 (ps.map pv), .row false 5 (ks.map kv)]] ∧ rr = .tup [.row true 1 ((leastO ps ks).1.map ovL), .int .i64 (leastO ps ks).2.1, .bool (leastO ps ks).2.2]
noncomputable def q_implLeastStreams : List A → Option A := kgr r_implLeastStreams
theorem k_implLeastStreams : KOk Try.prog (24, q_implLeastStreams) := kgr_ok (enters_of Try.func24 rfl rfl) (by rintro xs0 rr ⟨ps, ks, hc1, hc2, hc3, hc4, rfl, rfl⟩; exact implLeastStreams_ac ps ks hc1 hc2 hc3 hc4)
theorem e_implLeastStreams : ∀ (ps : List PG) (ks : List LK), (NW ps) → (KW ks) → (ps.length < 3518437208781) → (ks.length < 2513169434844) → q_implLeastStreams [.agg [.row false 3 (ps.map pv), .row false 5 (ks.map kv)]] = some (.tup [.row true 1 ((leastO ps ks).1.map ovL), .int .i64 (leastO ps ks).2.1, .bool (leastO ps ks).2.2]) := by
 intro ps ks hc1 hc2 hc3 hc4
 refine kgr_eq (fun xs0 rr r2 h h2 => ?_) ⟨ps, ks, hc1, hc2, hc3, hc4, rfl, rfl⟩
 obtain ⟨ps1, ks1, _, _, _, _, e1, rfl⟩ := h; obtain ⟨ps2, ks2, _, _, _, _, e2, rfl⟩ := h2
 rw [e1] at e2
 simp only [List.cons.injEq, A.int.injEq, A.bool.injEq, A.agg.injEq, A.row.injEq, pv_inj, kv_inj, true_and, and_true] at e2
 obtain ⟨e3, e4⟩ := e2
 subst e3 e4
 rfl
end Go.Proofs.Ytimgfinlbhodhaa.Ab
