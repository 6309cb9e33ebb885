/- Walks of functions of the program, and the plain definitions. -/
import Derived.Test.YtimgfinlbhodhaaFwGd
namespace Go.Proofs.Ytimgfinlbhodhaa.Ab
open Go
set_option linter.unusedVariables false
set_option linter.unusedSimpArgs false
set_option maxHeartbeats 4000000
theorem markProgramS_mc (h : Heap) (ps : List PG) (n : Int) (hc1 : h = [some (3, ps.map opv)]) (hc2 : 0 ≤ n) (hc3 : n + (tP ps : Int) ≤ 1048576000) (hc4 : ps.length < 1099511627776) : MC Try.prog 115 h [.sl 0 0 ps.length, .int .i64 n] (.int .i64 (n + (tP ps : Int))) ([some (3, (mkG wPg mPg n ps).map opv)]) := by
 subst hc1
 unfold tP at hc3 ⊢
 refine MC.of tab_ok Try.func115 rfl (Nat.le_of_ble_eq_true rfl) fun w0 S0 fs0 φ0 hφ0 hq0 => ?_
 change G _ _ ⟨[(0, .sl 0 0 ps.length), (1, .int .i64 n)], _, 34⟩
 apply G.seq
 refine G.rg tab_ok (kof_nil _) (hk := ?_)
 apply G.seq
 apply G.seq
 refine G.rg tab_ok (kof_nil _) (hk := ?_)
 apply G.block
 refine G.fg [0, 1, 5] (hk := ?_)
 refine G.loopX (fun j : Nat => ⟨[(0, .sl 0 0 ps.length), (1, .int .i64 (n + (gtot wPg (ps.take j) : Int))), (5, .int .i64 j)], [some (3, (upG wPg mPg n ps j).map opv)], 34⟩) (fun j => j ≤ ps.length) (fun j => ps.length - j) (0) (Nat.zero_le _) (by simp [gtot_nil, upG_zero]) ?_
 intro j hj J hJ
 have hw : IntKind.i64.wrap ((j : Int) + 1) = (j : Int) + 1 := wrap64 (by omega) (by omega)
 apply G.seq
 apply G.seq
 refine G.rg tab_ok (kof_nil _) (hk := ?_)
 refine G.iff (h1 := fun h1 => ?_) (h2 := fun h1 => ?_)
 ·try simp only [zqz] at h1
  apply G.skip
  apply G.seq
  apply G.block
  apply G.seq
  have hlt : j < (upG wPg mPg n ps j).length := by rw [upG_len n hj]; exact h1
  have hgd := upG_get (w := wPg) (m := mPg) n h1
  have htg := gtot_get (f := wPg) h1
  have hwd : wPg (ps.getD j default) = 2 + 4 * (ps.getD j default).l.length := rfl
  have hw1 : IntKind.i64.wrap (n + (gtot wPg (ps.take j) : Int) + 1) = n + (gtot wPg (ps.take j) : Int) + 1 := wrap64 (by omega) (by omega)
  have hw2 : IntKind.i64.wrap (n + (gtot wPg (ps.take j) : Int) + 1 + 1) = n + (gtot wPg (ps.take j) : Int) + 1 + 1 := wrap64 (by omega) (by omega)
  have hgu : ((upG wPg mPg n ps j).map opv)[j]? = some [.int .i64 (ps.getD j default).i, .int .i64 (ps.getD j default).o, .row true 4 ((ps.getD j default).l.map insv)] := by
   rw [List.getElem?_map, List.getElem?_eq_getElem hlt]
   have e : (upG wPg mPg n ps j)[j] = (ps.getD j default) := by rw [← hgd]; simp [List.getD_eq_getElem?_getD, List.getElem?_eq_getElem hlt]
   rw [e]
   rfl
  have hr1 : ∀ e : List A, (((upG wPg mPg n ps j).map opv).set j e)[j]? = some e := row_self hgu
  have hr2 : ∀ e e2 : List A, (((upG wPg mPg n ps j).map opv).set j e).set j e2 = ((upG wPg mPg n ps j).map opv).set j e2 := fun _ _ => List.set_set ..
  have hrdc : ∀ (e : List A) (a b : Nat), rdCells (((upG wPg mPg n ps j).map opv).set j e) j a b = if ((e.drop a).take b).length = b ∧ b ≠ 0 then some ((e.drop a).take b) else none := fun e a b => by simp only [rdCells, hr1]
  refine G.rg tab_ok (kof_nil _) (hk := ?_)
  apply G.seq
  refine G.rg tab_ok (kof_nil _) (hk := ?_)
  apply G.seq
  refine G.rg tab_ok (kof_nil _) (hk := ?_)
  apply G.seq
  refine G.rg tab_ok (kof_nil _) (hk := ?_)
  refine G.focus 0 j 2 (e := [.int .i64 (n + (gtot wPg (ps.take j) : Int)), .int .i64 (n + (gtot wPg (ps.take j) : Int) + 1), .row true 4 ((ps.getD j default).l.map insv)]) (sz' := 4) (es' := (ps.getD j default).l.map insv) rfl (hr1 _) rfl ?_
  simp only [withH]
  refine G.rgN 6 tab_ok (kof_nil _) (hk := ?_)
  refine G.cf [1] en_markInstrS (markInstrS_mc [some (4, (ps.getD j default).l.map insv)] 0 _ (n + (gtot wPg (ps.take j) : Int) + 1 + 1) rfl (by omega) (by omega) (by omega)) (h := ?_)
  refine G.rgC tab_ok (kof_nil _) (hk := ?_)
  refine G.unfocusE 0 j 2 1 (f := opv) (l := (upG wPg mPg n ps j)) (mPg (n + (gtot wPg (ps.take j) : Int)) (ps.getD j default)) rfl hlt rfl rfl (by decide) (by first | rw [mkP_len] | rw [mkI_len] | simp [mkP_len, mkI_len]) (by first | exact pureLL_insv _ | exact pureLL_iv _) rfl ?_
  rw [upG_set n h1]
  refine G.pop [0, 1, 5] (h' := [some (3, (upG wPg mPg n ps (j + 1)).map opv)]) (junk := [none]) rfl ?_ (by rw [hφ0]; exact Nat.le_refl _) ?_
  ·show (refLL _ _ && true) = true
   rw [pureLL_ref (pureLL_opv _)]
   rfl
  apply G.blk
  refine G.rg tab_ok (kof_nil _) (hk := ?_)
  refine G.fg [0, 1, 5] (hk := ?_)
  have hts := gtot_succ (f := wPg) h1
  rw [hwd] at hts
  exact G.upto (hJ (j + 1) (by omega) (by omega)) (by simp [clip, refA, hts]; omega)
 ·try simp only [zqz] at h1
  refine G.exit rfl ?_
  apply G.seq
  refine G.rg tab_ok (kof_nil _) (hk := ?_)
  obtain rfl : j = ps.length := by omega
  rw [upG_full, List.take_length]
  refine G.finM (junk := []) tab_ok (hr := ?_) (hh := ?_) (hq := ?_) (hl := ?_)
  ·rfl
  ·simp
  ·show (refLL _ _ && true) = true
   rw [pureLL_ref (pureLL_opv _)]
   rfl
  ·rw [hφ0]; exact Nat.le_refl _
theorem markLinkS_mc (h : Heap) (ks : List LK) (n : Int) (hc1 : h = [some (5, ks.map okv)]) (hc2 : 0 ≤ n) (hc3 : n + (tK ks : Int) ≤ 1048576000) (hc4 : ks.length < 1099511627776) : MC Try.prog 116 h [.sl 0 0 ks.length, .int .i64 n] (.int .i64 (n + (tK ks : Int))) ([some (5, (mkG wLk mLk n ks).map okv)]) := by
 subst hc1
 unfold tK at hc3 ⊢
 refine MC.of tab_ok Try.func116 rfl (Nat.le_of_ble_eq_true rfl) fun w0 S0 fs0 φ0 hφ0 hq0 => ?_
 change G _ _ ⟨[(0, .sl 0 0 ks.length), (1, .int .i64 n)], _, 48⟩
 apply G.seq
 refine G.rg tab_ok (kof_nil _) (hk := ?_)
 apply G.seq
 apply G.seq
 refine G.rg tab_ok (kof_nil _) (hk := ?_)
 apply G.block
 refine G.fg [0, 1, 5] (hk := ?_)
 refine G.loopX (fun j : Nat => ⟨[(0, .sl 0 0 ks.length), (1, .int .i64 (n + (gtot wLk (ks.take j) : Int))), (5, .int .i64 j)], [some (5, (upG wLk mLk n ks j).map okv)], 48⟩) (fun j => j ≤ ks.length) (fun j => ks.length - j) (0) (Nat.zero_le _) (by simp [gtot_nil, upG_zero]) ?_
 intro j hj J hJ
 have hw : IntKind.i64.wrap ((j : Int) + 1) = (j : Int) + 1 := wrap64 (by omega) (by omega)
 apply G.seq
 apply G.seq
 refine G.rg tab_ok (kof_nil _) (hk := ?_)
 refine G.iff (h1 := fun h1 => ?_) (h2 := fun h1 => ?_)
 ·try simp only [zqz] at h1
  apply G.skip
  apply G.seq
  apply G.block
  apply G.seq
  have hlt : j < (upG wLk mLk n ks j).length := by rw [upG_len n hj]; exact h1
  have hgd := upG_get (w := wLk) (m := mLk) n h1
  have htg := gtot_get (f := wLk) h1
  have hwd : wLk (ks.getD j default) = 4 + (ks.getD j default).tk.length := rfl
  have hw1 : IntKind.i64.wrap (n + (gtot wLk (ks.take j) : Int) + 1) = n + (gtot wLk (ks.take j) : Int) + 1 := wrap64 (by omega) (by omega)
  have hw2 : IntKind.i64.wrap (n + (gtot wLk (ks.take j) : Int) + 1 + 1) = n + (gtot wLk (ks.take j) : Int) + 1 + 1 := wrap64 (by omega) (by omega)
  have hw3 : IntKind.i64.wrap (n + (gtot wLk (ks.take j) : Int) + 1 + 1 + 1) = n + (gtot wLk (ks.take j) : Int) + 1 + 1 + 1 := wrap64 (by omega) (by omega)
  have hw4 : IntKind.i64.wrap (n + (gtot wLk (ks.take j) : Int) + 1 + 1 + 1 + 1) = n + (gtot wLk (ks.take j) : Int) + 1 + 1 + 1 + 1 := wrap64 (by omega) (by omega)
  have hgu : ((upG wLk mLk n ks j).map okv)[j]? = some [.int .i64 (ks.getD j default).fr, .int .i64 (ks.getD j default).ou, .int .i64 (ks.getD j default).to, .int .i64 (ks.getD j default).ip, .row true 1 ((ks.getD j default).tk.map iv)] := by
   rw [List.getElem?_map, List.getElem?_eq_getElem hlt]
   have e : (upG wLk mLk n ks j)[j] = (ks.getD j default) := by rw [← hgd]; simp [List.getD_eq_getElem?_getD, List.getElem?_eq_getElem hlt]
   rw [e]
   rfl
  have hr1 : ∀ e : List A, (((upG wLk mLk n ks j).map okv).set j e)[j]? = some e := row_self hgu
  have hr2 : ∀ e e2 : List A, (((upG wLk mLk n ks j).map okv).set j e).set j e2 = ((upG wLk mLk n ks j).map okv).set j e2 := fun _ _ => List.set_set ..
  have hrdc : ∀ (e : List A) (a b : Nat), rdCells (((upG wLk mLk n ks j).map okv).set j e) j a b = if ((e.drop a).take b).length = b ∧ b ≠ 0 then some ((e.drop a).take b) else none := fun e a b => by simp only [rdCells, hr1]
  refine G.rg tab_ok (kof_nil _) (hk := ?_)
  apply G.seq
  refine G.rg tab_ok (kof_nil _) (hk := ?_)
  apply G.seq
  refine G.rg tab_ok (kof_nil _) (hk := ?_)
  apply G.seq
  refine G.rg tab_ok (kof_nil _) (hk := ?_)
  apply G.seq
  refine G.rg tab_ok (kof_nil _) (hk := ?_)
  apply G.seq
  refine G.rg tab_ok (kof_nil _) (hk := ?_)
  apply G.seq
  refine G.fg [0, 1, 5] (hk := ?_)
  refine G.rg tab_ok (kof_nil _) (hk := ?_)
  apply G.seq
  refine G.rg tab_ok (kof_nil _) (hk := ?_)
  refine G.focus 0 j 4 (e := [.int .i64 (n + (gtot wLk (ks.take j) : Int)), .int .i64 (n + (gtot wLk (ks.take j) : Int) + 1), .int .i64 (n + (gtot wLk (ks.take j) : Int) + 1 + 1), .int .i64 (n + (gtot wLk (ks.take j) : Int) + 1 + 1 + 1), .row true 1 ((ks.getD j default).tk.map iv)]) (sz' := 1) (es' := (ks.getD j default).tk.map iv) rfl (hr1 _) rfl ?_
  simp only [withH]
  refine G.rgN 6 tab_ok (kof_nil _) (hk := ?_)
  refine G.cf [1] en_markIntS (markIntS_mc [some (1, (ks.getD j default).tk.map iv)] 0 _ (n + (gtot wLk (ks.take j) : Int) + 1 + 1 + 1 + 1) rfl (by omega) (by omega) (by omega)) (h := ?_)
  refine G.rgC tab_ok (kof_nil _) (hk := ?_)
  refine G.unfocusE 0 j 4 1 (f := okv) (l := (upG wLk mLk n ks j)) (mLk (n + (gtot wLk (ks.take j) : Int)) (ks.getD j default)) rfl hlt rfl rfl (by decide) (by first | rw [mkP_len] | rw [mkI_len] | simp [mkP_len, mkI_len]) (by first | exact pureLL_insv _ | exact pureLL_iv _) rfl ?_
  rw [upG_set n h1]
  refine G.pop [0, 1, 5] (h' := [some (5, (upG wLk mLk n ks (j + 1)).map okv)]) (junk := [none]) rfl ?_ (by rw [hφ0]; exact Nat.le_refl _) ?_
  ·show (refLL _ _ && true) = true
   rw [pureLL_ref (pureLL_okv _)]
   rfl
  apply G.blk
  refine G.rg tab_ok (kof_nil _) (hk := ?_)
  refine G.fg [0, 1, 5] (hk := ?_)
  have hts := gtot_succ (f := wLk) h1
  rw [hwd] at hts
  exact G.upto (hJ (j + 1) (by omega) (by omega)) (by simp [clip, refA, hts]; omega)
 ·try simp only [zqz] at h1
  refine G.exit rfl ?_
  apply G.seq
  refine G.rg tab_ok (kof_nil _) (hk := ?_)
  obtain rfl : j = ks.length := by omega
  rw [upG_full, List.take_length]
  refine G.finM (junk := []) tab_ok (hr := ?_) (hh := ?_) (hq := ?_) (hl := ?_)
  ·rfl
  ·simp
  ·show (refLL _ _ && true) = true
   rw [pureLL_ref (pureLL_okv _)]
   rfl
  ·rw [hφ0]; exact Nat.le_refl _
theorem en_markProgramS : Enters Try.prog 115 := enters_of Try.func115 rfl rfl
theorem en_markLinkS : Enters Try.prog 116 := enters_of Try.func116 rfl rfl
theorem markNetwork_mc (h : Heap) (ps : List PG) (ks : List LK) (n : Int) (hc1 : h = [some (3, ps.map opv), some (5, ks.map okv)]) (hc2 : 0 ≤ n) (hc3 : n + (tP ps : Int) + (tK ks : Int) ≤ 1048576000) (hc4 : ps.length < 1099511627776) (hc5 : ks.length < 1099511627776) : MC Try.prog 41 h [.agg [.sl 0 0 ps.length, .sl 1 0 ks.length], .int .i64 n] (.int .i64 (n + (tP ps : Int) + (tK ks : Int))) ([some (3, (mkPS n ps).map opv), some (5, (mkKS (n + (tP ps : Int)) ks).map okv)]) := by
 subst hc1
 refine MC.of tab_ok Try.func41 rfl (Nat.le_of_ble_eq_true rfl) fun w0 S0 fs0 φ0 hφ0 hq0 => ?_
 change G _ _ ⟨[(0, .agg [.sl 0 0 ps.length, .sl 1 0 ks.length]), (1, .int .i64 n)], _, 14⟩
 apply G.seq
 refine G.rg tab_ok (kof_nil _) (hk := ?_)
 apply G.seq
 refine G.rgN 3 tab_ok (kof_nil _) (hk := ?_)
 refine G.cf [0] en_markProgramS (markProgramS_mc _ ps n rfl (by omega) (by omega) hc4) (h := ?_)
 refine G.rgC tab_ok (kof_nil _) (hk := ?_)
 apply G.seq
 refine G.rgN 3 tab_ok (kof_nil _) (hk := ?_)
 refine G.cf [1] en_markLinkS (markLinkS_mc _ ks (n + (tP ps : Int)) rfl (by omega) (by omega) hc5) (h := ?_)
 refine G.rgC tab_ok (kof_nil _) (hk := ?_)
 apply G.seq
 refine G.rg tab_ok (kof_nil _) (hk := ?_)
 refine G.finM (junk := [some (2, [[.sl 0 0 ps.length, .sl 1 0 ks.length]])]) tab_ok (hr := ?_) (hh := ?_) (hq := ?_) (hl := ?_)
 ·rfl
 ·rfl
 ·show (refLL _ _ && (refLL _ _ && true)) = true
  rw [pureLL_ref (pureLL_opv _), pureLL_ref (pureLL_okv _)]
  rfl
 ·rw [hφ0]; exact Nat.le_refl _
theorem ok_heldProgramS : Kn.ok Try.prog (kof [(174, q_heldInstrS)]) := kof_cons k_heldInstrS ((kof_nil _))
theorem heldProgramS_ac (ps : List PG) (n : Int) (hc1 : 0 ≤ n) (hc2 : n + (tP ps : Int) ≤ 1048576000) (hc3 : ps.length < 1099511627776) : AC Try.prog 117 [.row false 3 (ps.map pv), .int .i64 n] (.int .i64 (heldPS n ps)) := by
 have e_heldInstrS := e_heldInstrS
 unfold tP at hc2
 refine AC.of tab_ok Try.func117 rfl (Nat.le_of_ble_eq_true rfl) fun w0 S0 => ?_
 change G _ _ ⟨[(0, .row false 3 (ps.map pv)), (1, .int .i64 n)], [], 40⟩
 apply G.seq
 refine G.rg tab_ok ok_heldProgramS (hk := ?_)
 apply G.seq
 apply G.seq
 refine G.rg tab_ok ok_heldProgramS (hk := ?_)
 apply G.block
 refine G.cn [0, 1, 5] [] (h := ?_)
 refine G.loopX (fun j : Nat => ⟨[(0, .row false 3 (ps.map pv)), (1, .int .i64 (n + (gtot wPg (ps.take j) : Int))), (5, .int .i64 j)], [], 40⟩) (fun j => j ≤ ps.length ∧ ∀ k < j, ps.getD k default = mPg (n + (gtot wPg (ps.take k) : Int)) (ps.getD k default)) (fun j => ps.length - j) (0) (⟨Nat.zero_le _, by omega⟩) (by simp [gtot_nil]) ?_
 intro j hj J hJ
 obtain ⟨hj, hall⟩ := hj
 have hw : IntKind.i64.wrap ((j : Int) + 1) = (j : Int) + 1 := wrap64 (by omega) (by omega)
 apply G.seq
 apply G.seq
 refine G.rg tab_ok ok_heldProgramS (hk := ?_)
 refine G.iff (h1 := fun h1 => ?_) (h2 := fun h1 => ?_)
 ·try simp only [zqz] at h1
  apply G.skip
  apply G.seq
  apply G.block
  apply G.seq
  apply G.seq
  have htg := gtot_get (f := wPg) h1
  have hwd : wPg (ps.getD j default) = 2 + 4 * (ps.getD j default).l.length := rfl
  have hw1 : IntKind.i64.wrap (n + (gtot wPg (ps.take j) : Int) + 1) = n + (gtot wPg (ps.take j) : Int) + 1 := wrap64 (by omega) (by omega)
  have hw2 : IntKind.i64.wrap (n + (gtot wPg (ps.take j) : Int) + 1 + 1) = n + (gtot wPg (ps.take j) : Int) + 1 + 1 := wrap64 (by omega) (by omega)
  have hq1 : 0 ≤ n + (gtot wPg (ps.take j) : Int) + 1 + 1 := by omega
  have hq2 : n + (gtot wPg (ps.take j) : Int) + 1 + 1 ≤ 1099511627776 := by omega
  have hq3 : (ps.getD j default).l.length < 1099511627776 := by omega
  refine G.rg tab_ok ok_heldProgramS (hk := ?_)
  refine G.fg [0, 1, 5, 18] (hk := ?_)
  refine G.iff (h1 := fun h2 => ?_) (h2 := fun h2 => ?_)
  ·try simp only [zqz] at h2
   apply G.seq
   refine G.rg tab_ok ok_heldProgramS (hk := ?_)
   refine G.fin tab_ok (hr := ?_)
   simp only [oneOrTup]
   congr 1
   exact (heldG_no (w := wPg) (m := mPg) (by omega) (fun e => h2 (by rw [e]; rfl))).symm
  ·try simp only [zqz] at h2
   apply G.skip
   apply G.seq
   refine G.rg tab_ok ok_heldProgramS (hk := ?_)
   apply G.seq
   apply G.seq
   refine G.rg tab_ok ok_heldProgramS (hk := ?_)
   refine G.fg [0, 1, 5, 27] (hk := ?_)
   refine G.iff (h1 := fun h3 => ?_) (h2 := fun h3 => ?_)
   ·try simp only [zqz] at h3
    apply G.seq
    refine G.rg tab_ok ok_heldProgramS (hk := ?_)
    refine G.fin tab_ok (hr := ?_)
    simp only [oneOrTup]
    congr 1
    exact (heldG_no (w := wPg) (m := mPg) (by omega) (fun e => h3 (by rw [e]; rfl))).symm
   ·try simp only [zqz] at h3
    apply G.skip
    apply G.seq
    refine G.rg tab_ok ok_heldProgramS (hk := ?_)
    apply G.seq
    refine G.rg tab_ok ok_heldProgramS (hk := ?_)
    apply G.seq
    refine G.rg tab_ok ok_heldProgramS (hk := ?_)
    refine G.fg [0, 1, 5, 38] (hk := ?_)
    refine G.iff (h1 := fun h4 => ?_) (h2 := fun h4 => ?_)
    ·try simp only [zqz] at h4
     apply G.seq
     refine G.rg tab_ok ok_heldProgramS (hk := ?_)
     refine G.fin tab_ok (hr := ?_)
     simp only [oneOrTup]
     congr 1
     exact (heldG_no (w := wPg) (m := mPg) (by omega) (mPg_bad (by omega) h4)).symm
    ·try simp only [zqz] at h4
     apply G.skip
     apply G.blk
     refine G.rg tab_ok ok_heldProgramS (hk := ?_)
     refine G.cn [0, 1, 5] [] (h := ?_)
     have hts := gtot_succ (f := wPg) h1
     rw [hwd] at hts
     have hyes := heldP_pos (Int.not_lt.2 h4)
     have hv : heldP (n + (gtot wPg (ps.take j) : Int) + 1 + 1) (ps.getD j default).l = n + (gtot wPg (ps.take (j + 1)) : Int) := by rw [hyes.2]; omega
     rw [hv]
     exact G.upto (hJ (j + 1) ⟨by omega, held_up hall (mPg_mk h2 h3 hyes.1)⟩ (by omega)) (by simp)
 ·try simp only [zqz] at h1
  refine G.exit rfl ?_
  apply G.seq
  refine G.rg tab_ok ok_heldProgramS (hk := ?_)
  obtain rfl : j = ps.length := by omega
  refine G.fin tab_ok (hr := ?_)
  simp only [oneOrTup]
  congr 1
  rw [List.take_length]
  unfold heldPS
  exact (heldG_yes hall).symm
def r_heldProgramS (xs0 : List A) (rr : A) : Prop := ∃ (ps : List PG) (n : Int), (0 ≤ n) ∧ (n + (tP ps : Int) ≤ 1048576000) ∧ (ps.length < 1099511627776) ∧ xs0 = [.row false 3 (ps.map pv), .int .i64 n] ∧ rr = .int .i64 (heldPS n ps)
noncomputable def q_heldProgramS : List A → Option A := kgr r_heldProgramS
theorem k_heldProgramS : KOk Try.prog (117, q_heldProgramS) := kgr_ok (enters_of Try.func117 rfl rfl) (by rintro xs0 rr ⟨ps, n, hc1, hc2, hc3, rfl, rfl⟩; exact heldProgramS_ac ps n hc1 hc2 hc3)
theorem e_heldProgramS : ∀ (ps : List PG) (n : Int), (0 ≤ n) → (n + (tP ps : Int) ≤ 1048576000) → (ps.length < 1099511627776) → q_heldProgramS [.row false 3 (ps.map pv), .int .i64 n] = some (.int .i64 (heldPS n ps)) := by
 intro ps n hc1 hc2 hc3
 refine kgr_eq (fun xs0 rr r2 h h2 => ?_) ⟨ps, n, hc1, hc2, hc3, rfl, rfl⟩
 obtain ⟨ps1, n1, _, _, _, e1, rfl⟩ := h; obtain ⟨ps2, n2, _, _, _, e2, rfl⟩ := h2
 rw [e1] at e2
 simp only [List.cons.injEq, A.int.injEq, A.bool.injEq, A.agg.injEq, A.row.injEq, A.fn.injEq, A.rp.injEq, insv_inj, iv_inj, pv_inj, kv_inj, av_inj, true_and, and_true] at e2
 simp [e2]
theorem ok_heldLinkS : Kn.ok Try.prog (kof [(175, q_heldIntS)]) := kof_cons k_heldIntS ((kof_nil _))
theorem heldLinkS_ac (ks : List LK) (n : Int) (hc1 : 0 ≤ n) (hc2 : n + (tK ks : Int) ≤ 1048576000) (hc3 : ks.length < 1099511627776) : AC Try.prog 118 [.row false 5 (ks.map kv), .int .i64 n] (.int .i64 (heldKS n ks)) := by
 have e_heldIntS := e_heldIntS
 unfold tK at hc2
 refine AC.of tab_ok Try.func118 rfl (Nat.le_of_ble_eq_true rfl) fun w0 S0 => ?_
 change G _ _ ⟨[(0, .row false 5 (ks.map kv)), (1, .int .i64 n)], [], 58⟩
 apply G.seq
 refine G.rg tab_ok ok_heldLinkS (hk := ?_)
 apply G.seq
 apply G.seq
 refine G.rg tab_ok ok_heldLinkS (hk := ?_)
 apply G.block
 refine G.cn [0, 1, 5] [] (h := ?_)
 refine G.loopX (fun j : Nat => ⟨[(0, .row false 5 (ks.map kv)), (1, .int .i64 (n + (gtot wLk (ks.take j) : Int))), (5, .int .i64 j)], [], 58⟩) (fun j => j ≤ ks.length ∧ ∀ k < j, ks.getD k default = mLk (n + (gtot wLk (ks.take k) : Int)) (ks.getD k default)) (fun j => ks.length - j) (0) (⟨Nat.zero_le _, by omega⟩) (by simp [gtot_nil]) ?_
 intro j hj J hJ
 obtain ⟨hj, hall⟩ := hj
 have hw : IntKind.i64.wrap ((j : Int) + 1) = (j : Int) + 1 := wrap64 (by omega) (by omega)
 apply G.seq
 apply G.seq
 refine G.rg tab_ok ok_heldLinkS (hk := ?_)
 refine G.iff (h1 := fun h1 => ?_) (h2 := fun h1 => ?_)
 ·try simp only [zqz] at h1
  apply G.skip
  apply G.seq
  apply G.block
  apply G.seq
  apply G.seq
  have htg := gtot_get (f := wLk) h1
  have hwd : wLk (ks.getD j default) = 4 + (ks.getD j default).tk.length := rfl
  have hw1 : IntKind.i64.wrap (n + (gtot wLk (ks.take j) : Int) + 1) = n + (gtot wLk (ks.take j) : Int) + 1 := wrap64 (by omega) (by omega)
  have hw2 : IntKind.i64.wrap (n + (gtot wLk (ks.take j) : Int) + 1 + 1) = n + (gtot wLk (ks.take j) : Int) + 1 + 1 := wrap64 (by omega) (by omega)
  have hw3 : IntKind.i64.wrap (n + (gtot wLk (ks.take j) : Int) + 1 + 1 + 1) = n + (gtot wLk (ks.take j) : Int) + 1 + 1 + 1 := wrap64 (by omega) (by omega)
  have hw4 : IntKind.i64.wrap (n + (gtot wLk (ks.take j) : Int) + 1 + 1 + 1 + 1) = n + (gtot wLk (ks.take j) : Int) + 1 + 1 + 1 + 1 := wrap64 (by omega) (by omega)
  have hq1 : 0 ≤ n + (gtot wLk (ks.take j) : Int) + 1 + 1 + 1 + 1 := by omega
  have hq2 : n + (gtot wLk (ks.take j) : Int) + 1 + 1 + 1 + 1 ≤ 1099511627776 := by omega
  have hq3 : (ks.getD j default).tk.length < 1099511627776 := by omega
  refine G.rg tab_ok ok_heldLinkS (hk := ?_)
  refine G.fg [0, 1, 5, 18] (hk := ?_)
  refine G.iff (h1 := fun h2 => ?_) (h2 := fun h2 => ?_)
  ·try simp only [zqz] at h2
   apply G.seq
   refine G.rg tab_ok ok_heldLinkS (hk := ?_)
   refine G.fin tab_ok (hr := ?_)
   simp only [oneOrTup]
   congr 1
   exact (heldG_no (w := wLk) (m := mLk) (by omega) (fun e => h2 (by rw [e]; rfl))).symm
  ·try simp only [zqz] at h2
   apply G.skip
   apply G.seq
   refine G.rg tab_ok ok_heldLinkS (hk := ?_)
   apply G.seq
   apply G.seq
   refine G.rg tab_ok ok_heldLinkS (hk := ?_)
   refine G.fg [0, 1, 5, 27] (hk := ?_)
   refine G.iff (h1 := fun h3 => ?_) (h2 := fun h3 => ?_)
   ·try simp only [zqz] at h3
    apply G.seq
    refine G.rg tab_ok ok_heldLinkS (hk := ?_)
    refine G.fin tab_ok (hr := ?_)
    simp only [oneOrTup]
    congr 1
    exact (heldG_no (w := wLk) (m := mLk) (by omega) (fun e => h3 (by rw [e]; rfl))).symm
   ·try simp only [zqz] at h3
    apply G.skip
    apply G.seq
    refine G.rg tab_ok ok_heldLinkS (hk := ?_)
    apply G.seq
    apply G.seq
    refine G.rg tab_ok ok_heldLinkS (hk := ?_)
    refine G.fg [0, 1, 5, 36] (hk := ?_)
    refine G.iff (h1 := fun h4 => ?_) (h2 := fun h4 => ?_)
    ·try simp only [zqz] at h4
     apply G.seq
     refine G.rg tab_ok ok_heldLinkS (hk := ?_)
     refine G.fin tab_ok (hr := ?_)
     simp only [oneOrTup]
     congr 1
     exact (heldG_no (w := wLk) (m := mLk) (by omega) (fun e => h4 (by rw [e]; rfl))).symm
    ·try simp only [zqz] at h4
     apply G.skip
     apply G.seq
     refine G.rg tab_ok ok_heldLinkS (hk := ?_)
     apply G.seq
     apply G.seq
     refine G.rg tab_ok ok_heldLinkS (hk := ?_)
     refine G.fg [0, 1, 5, 45] (hk := ?_)
     refine G.iff (h1 := fun h5 => ?_) (h2 := fun h5 => ?_)
     ·try simp only [zqz] at h5
      apply G.seq
      refine G.rg tab_ok ok_heldLinkS (hk := ?_)
      refine G.fin tab_ok (hr := ?_)
      simp only [oneOrTup]
      congr 1
      exact (heldG_no (w := wLk) (m := mLk) (by omega) (fun e => h5 (by rw [e]; rfl))).symm
     ·try simp only [zqz] at h5
      apply G.skip
      apply G.seq
      refine G.rg tab_ok ok_heldLinkS (hk := ?_)
      apply G.seq
      refine G.rg tab_ok ok_heldLinkS (hk := ?_)
      apply G.seq
      refine G.rg tab_ok ok_heldLinkS (hk := ?_)
      refine G.fg [0, 1, 5, 56] (hk := ?_)
      refine G.iff (h1 := fun h6 => ?_) (h2 := fun h6 => ?_)
      ·try simp only [zqz] at h6
       apply G.seq
       refine G.rg tab_ok ok_heldLinkS (hk := ?_)
       refine G.fin tab_ok (hr := ?_)
       simp only [oneOrTup]
       congr 1
       exact (heldG_no (w := wLk) (m := mLk) (by omega) (mLk_bad (by omega) h6)).symm
      ·try simp only [zqz] at h6
       apply G.skip
       apply G.blk
       refine G.rg tab_ok ok_heldLinkS (hk := ?_)
       refine G.cn [0, 1, 5] [] (h := ?_)
       have hts := gtot_succ (f := wLk) h1
       rw [hwd] at hts
       have hyes := heldI_pos (Int.not_lt.2 h6)
       have hv : heldI (n + (gtot wLk (ks.take j) : Int) + 1 + 1 + 1 + 1) (ks.getD j default).tk = n + (gtot wLk (ks.take (j + 1)) : Int) := by rw [hyes.2]; omega
       rw [hv]
       exact G.upto (hJ (j + 1) ⟨by omega, held_up hall (mLk_mk h2 h3 h4 h5 hyes.1)⟩ (by omega)) (by simp)
 ·try simp only [zqz] at h1
  refine G.exit rfl ?_
  apply G.seq
  refine G.rg tab_ok ok_heldLinkS (hk := ?_)
  obtain rfl : j = ks.length := by omega
  refine G.fin tab_ok (hr := ?_)
  simp only [oneOrTup]
  congr 1
  rw [List.take_length]
  unfold heldKS
  exact (heldG_yes hall).symm
def r_heldLinkS (xs0 : List A) (rr : A) : Prop := ∃ (ks : List LK) (n : Int), (0 ≤ n) ∧ (n + (tK ks : Int) ≤ 1048576000) ∧ (ks.length < 1099511627776) ∧ xs0 = [.row false 5 (ks.map kv), .int .i64 n] ∧ rr = .int .i64 (heldKS n ks)
noncomputable def q_heldLinkS : List A → Option A := kgr r_heldLinkS
theorem k_heldLinkS : KOk Try.prog (118, q_heldLinkS) := kgr_ok (enters_of Try.func118 rfl rfl) (by rintro xs0 rr ⟨ks, n, hc1, hc2, hc3, rfl, rfl⟩; exact heldLinkS_ac ks n hc1 hc2 hc3)
theorem e_heldLinkS : ∀ (ks : List LK) (n : Int), (0 ≤ n) → (n + (tK ks : Int) ≤ 1048576000) → (ks.length < 1099511627776) → q_heldLinkS [.row false 5 (ks.map kv), .int .i64 n] = some (.int .i64 (heldKS n ks)) := by
 intro ks n hc1 hc2 hc3
 refine kgr_eq (fun xs0 rr r2 h h2 => ?_) ⟨ks, n, hc1, hc2, hc3, rfl, rfl⟩
 obtain ⟨ks1, n1, _, _, _, e1, rfl⟩ := h; obtain ⟨ks2, n2, _, _, _, e2, rfl⟩ := h2
 rw [e1] at e2
 simp only [List.cons.injEq, A.int.injEq, A.bool.injEq, A.agg.injEq, A.row.injEq, A.fn.injEq, A.rp.injEq, insv_inj, iv_inj, pv_inj, kv_inj, av_inj, true_and, and_true] at e2
 simp [e2]
theorem ok_heldNetwork : Kn.ok Try.prog (kof [(117, q_heldProgramS), (118, q_heldLinkS)]) := kof_cons k_heldProgramS (kof_cons k_heldLinkS ((kof_nil _)))
theorem heldNetwork_ac (ps : List PG) (ks : List LK) (n : Int) (hc1 : 0 ≤ n) (hc2 : n + (tP ps : Int) + (tK ks : Int) ≤ 1048576000) (hc3 : ps.length < 1099511627776) (hc4 : ks.length < 1099511627776) : AC Try.prog 42 [.agg [.row false 3 (ps.map pv), .row false 5 (ks.map kv)], .int .i64 n] (.int .i64 (heldN n ps ks)) := by
 have e_heldProgramS := e_heldProgramS
 have e_heldLinkS := e_heldLinkS
 have hs1 : n + (tP ps : Int) ≤ 1048576000 := by omega
 refine AC.of tab_ok Try.func42 rfl (Nat.le_of_ble_eq_true rfl) fun w0 S0 => ?_
 change G _ _ ⟨[(0, .agg [.row false 3 (ps.map pv), .row false 5 (ks.map kv)]), (1, .int .i64 n)], [], 18⟩
 apply G.seq
 refine G.rg tab_ok ok_heldNetwork (hk := ?_)
 apply G.seq
 refine G.rg tab_ok ok_heldNetwork (hk := ?_)
 apply G.seq
 apply G.seq
 refine G.rg tab_ok ok_heldNetwork (hk := ?_)
 refine G.fg [1, 2, 10] (hk := ?_)
 refine G.iff (h1 := fun h1 => ?_) (h2 := fun h1 => ?_)
 ·try simp only [zqz] at h1
  apply G.seq
  refine G.rg tab_ok ok_heldNetwork (hk := ?_)
  refine G.fin tab_ok (hr := ?_)
  simp only [oneOrTup]
  congr 1
  unfold heldN
  rw [if_pos h1]
 ·try simp only [zqz] at h1
  apply G.skip
  apply G.seq
  have hle := heldPS_le n ps
  have hs2 : heldPS n ps + (tK ks : Int) ≤ 1048576000 := by omega
  have hs3 : 0 ≤ heldPS n ps := by omega
  refine G.rg tab_ok ok_heldNetwork (hk := ?_)
  apply G.seq
  apply G.seq
  refine G.rg tab_ok ok_heldNetwork (hk := ?_)
  refine G.iff (h1 := fun h2 => ?_) (h2 := fun h2 => ?_)
  ·try simp only [zqz] at h2
   apply G.seq
   refine G.rg tab_ok ok_heldNetwork (hk := ?_)
   refine G.fin tab_ok (hr := ?_)
   simp only [oneOrTup]
   congr 1
   unfold heldN
   rw [if_neg (by omega), if_pos h2]
  ·try simp only [zqz] at h2
   apply G.skip
   apply G.seq
   refine G.rg tab_ok ok_heldNetwork (hk := ?_)
   refine G.fin tab_ok (hr := ?_)
   simp only [oneOrTup]
   congr 1
   unfold heldN
   rw [if_neg (by omega), if_neg (by omega)]
def r_heldNetwork (xs0 : List A) (rr : A) : Prop := ∃ (ps : List PG) (ks : List LK) (n : Int), (0 ≤ n) ∧ (n + (tP ps : Int) + (tK ks : Int) ≤ 1048576000) ∧ (ps.length < 1099511627776) ∧ (ks.length < 1099511627776) ∧ xs0 = [.agg [.row false 3 (ps.map pv), .row false 5 (ks.map kv)], .int .i64 n] ∧ rr = .int .i64 (heldN n ps ks)
noncomputable def q_heldNetwork : List A → Option A := kgr r_heldNetwork
theorem k_heldNetwork : KOk Try.prog (42, q_heldNetwork) := kgr_ok (enters_of Try.func42 rfl rfl) (by rintro xs0 rr ⟨ps, ks, n, hc1, hc2, hc3, hc4, rfl, rfl⟩; exact heldNetwork_ac ps ks n hc1 hc2 hc3 hc4)
theorem e_heldNetwork : ∀ (ps : List PG) (ks : List LK) (n : Int), (0 ≤ n) → (n + (tP ps : Int) + (tK ks : Int) ≤ 1048576000) → (ps.length < 1099511627776) → (ks.length < 1099511627776) → q_heldNetwork [.agg [.row false 3 (ps.map pv), .row false 5 (ks.map kv)], .int .i64 n] = some (.int .i64 (heldN n ps ks)) := by
 intro ps ks n hc1 hc2 hc3 hc4
 refine kgr_eq (fun xs0 rr r2 h h2 => ?_) ⟨ps, ks, n, hc1, hc2, hc3, hc4, rfl, rfl⟩
 obtain ⟨ps1, ks1, n1, _, _, _, _, e1, rfl⟩ := h; obtain ⟨ps2, ks2, n2, _, _, _, _, e2, rfl⟩ := h2
 rw [e1] at e2
 simp only [List.cons.injEq, A.int.injEq, A.agg.injEq, A.row.injEq, pv_inj, kv_inj, true_and, and_true] at e2
 obtain ⟨⟨e3, e4⟩, e5⟩ := e2
 subst e3 e4 e5
 rfl
end Go.Proofs.Ytimgfinlbhodhaa.Ab
