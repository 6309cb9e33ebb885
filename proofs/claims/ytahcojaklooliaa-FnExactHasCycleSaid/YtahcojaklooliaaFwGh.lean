/- Walks of functions of the program: what each answers, for all arguments that meet its conditions; and the plain definitions that tell it. -/
import Derived.Test.YtahcojaklooliaaFwGd
import Derived.Test.YtahcojaklooliaaFwB
import Derived.Test.YtahcojaklooliaaFwGa
namespace Go.Proofs.Ytahcojaklooliaa.Ab
open Go
set_option linter.unusedVariables false
set_option linter.unusedSimpArgs false
set_option maxHeartbeats 4000000
-- not in this seat: szIntSS
-- not in this seat: toIntSS
end Go.Proofs.Ytahcojaklooliaa.Ab

namespace Go.Proofs.Ytahcojaklooliaa.Ab
open Go
set_option linter.unusedVariables false
set_option linter.unusedSimpArgs false
set_option maxHeartbeats 4000000
theorem markProgramS_mc (h : Heap) (ps : List PG) (n : Int) (hc1 : h = [some (3, ps.map opv)]) (hc2 : 0 ≤ n) (hc3 : n + (tP ps : Int) ≤ 1048576000) (hc4 : ps.length < 1099511627776) : MC Try.prog 60 h [.sl 0 0 ps.length, .int .i64 n] (.int .i64 (n + (tP ps : Int))) ([some (3, (mkG wPg mPg n ps).map opv)]) := by
  subst hc1
  unfold tP at hc3 ⊢
  refine MC.of tab_ok Try.func60 rfl (Nat.le_of_ble_eq_true rfl) fun w0 S0 fs0 φ0 hφ0 hq0 => ?_
  change G _ _ ⟨[(0, .sl 0 0 ps.length), (1, .int .i64 n)], _, 34⟩
  apply G.seq
  refine G.rg tab_ok (kof_nil _) (hk := ?_)
  apply G.seq
  apply G.seq
  refine G.rg tab_ok (kof_nil _) (hk := ?_)
  apply G.block
  refine G.fg [0, 1, 5] (hk := ?_)
  refine G.loopX (fun j : Nat => ⟨[(0, .sl 0 0 ps.length), (1, .int .i64 (n + (gtot wPg (ps.take j) : Int))), (5, .int .i64 j)], [some (3, (upG wPg mPg n ps j).map opv)], 34⟩) (fun j => j ≤ ps.length) (fun j => ps.length - j) (0) (Nat.zero_le _) (by simp [gtot_nil, upG_zero]) ?_
  intro j hj J hJ
  have hw : IntKind.i64.wrap ((j : Int) + 1) = (j : Int) + 1 := wrap64 (by omega) (by omega)
  apply G.seq
  apply G.seq
  refine G.rg tab_ok (kof_nil _) (hk := ?_)
  refine G.iff (h1 := fun h1 => ?_) (h2 := fun h1 => ?_)
  · try simp only [decide_eq_true_eq, decide_eq_false_iff_not, Bool.and_eq_true, Bool.and_eq_false_imp, Bool.or_eq_true, Bool.or_eq_false_iff, Bool.not_eq_true', Bool.not_eq_false', bne_iff_ne, beq_iff_eq, bne_eq_false_iff_eq, beq_eq_false_iff_ne, ne_eq, Int.ofNat_lt, Int.not_lt, Int.not_le, Int.ofNat_le, Nat.not_lt, Nat.not_le, gt_iff_lt, ge_iff_le] at h1
    apply G.skip
    apply G.seq
    apply G.block
    apply G.seq
    have hlt : j < (upG wPg mPg n ps j).length := by rw [upG_len n hj]; exact h1
    have hgd := upG_get (w := wPg) (m := mPg) n h1
    have htg := gtot_get (f := wPg) h1
    have hwd : wPg (ps.getD j default) = 2 + 4 * (ps.getD j default).l.length := rfl
    have hw1 : IntKind.i64.wrap (n + (gtot wPg (ps.take j) : Int) + 1) = n + (gtot wPg (ps.take j) : Int) + 1 := wrap64 (by omega) (by omega)
    have hw2 : IntKind.i64.wrap (n + (gtot wPg (ps.take j) : Int) + 1 + 1) = n + (gtot wPg (ps.take j) : Int) + 1 + 1 := wrap64 (by omega) (by omega)
    have hgu : ((upG wPg mPg n ps j).map opv)[j]? = some [.int .i64 (ps.getD j default).i, .int .i64 (ps.getD j default).o, .row true 4 ((ps.getD j default).l.map insv)] := by
      rw [List.getElem?_map, List.getElem?_eq_getElem hlt]
      have e : (upG wPg mPg n ps j)[j] = (ps.getD j default) := by rw [← hgd]; simp [List.getD_eq_getElem?_getD, List.getElem?_eq_getElem hlt]
      rw [e]
      rfl
    have hr1 : ∀ e : List A, (((upG wPg mPg n ps j).map opv).set j e)[j]? = some e := row_self hgu
    have hr2 : ∀ e e2 : List A, (((upG wPg mPg n ps j).map opv).set j e).set j e2 = ((upG wPg mPg n ps j).map opv).set j e2 := fun _ _ => List.set_set ..
    have hrdc : ∀ (e : List A) (a b : Nat), rdCells (((upG wPg mPg n ps j).map opv).set j e) j a b = if ((e.drop a).take b).length = b ∧ b ≠ 0 then some ((e.drop a).take b) else none := fun e a b => by simp only [rdCells, hr1]
    refine G.rg tab_ok (kof_nil _) (hk := ?_)
    apply G.seq
    refine G.rg tab_ok (kof_nil _) (hk := ?_)
    apply G.seq
    refine G.rg tab_ok (kof_nil _) (hk := ?_)
    apply G.seq
    refine G.rg tab_ok (kof_nil _) (hk := ?_)
    refine G.focus 0 j 2 (e := [.int .i64 (n + (gtot wPg (ps.take j) : Int)), .int .i64 (n + (gtot wPg (ps.take j) : Int) + 1), .row true 4 ((ps.getD j default).l.map insv)]) (sz' := 4) (es' := (ps.getD j default).l.map insv) rfl (hr1 _) rfl ?_
    simp only [withH]
    refine G.rgN 6 tab_ok (kof_nil _) (hk := ?_)
    refine G.cf [1] en_markInstrS (markInstrS_mc [some (4, (ps.getD j default).l.map insv)] 0 _ (n + (gtot wPg (ps.take j) : Int) + 1 + 1) rfl (by omega) (by omega) (by omega)) (h := ?_)
    refine G.rgC tab_ok (kof_nil _) (hk := ?_)
    refine G.unfocusE 0 j 2 1 (f := opv) (l := (upG wPg mPg n ps j)) (mPg (n + (gtot wPg (ps.take j) : Int)) (ps.getD j default)) rfl hlt rfl rfl (by decide) (by first | rw [mkP_len] | rw [mkI_len] | simp [mkP_len, mkI_len]) (by first | exact pureLL_insv _ | exact pureLL_iv _) rfl ?_
    rw [upG_set n h1]
    refine G.pop [0, 1, 5] (h' := [some (3, (upG wPg mPg n ps (j + 1)).map opv)]) (junk := [none]) rfl ?_ (by rw [hφ0]; exact Nat.le_refl _) ?_
    · show (refLL _ _ && true) = true
      rw [pureLL_ref (pureLL_opv _)]
      rfl
    apply G.blk
    refine G.rg tab_ok (kof_nil _) (hk := ?_)
    refine G.fg [0, 1, 5] (hk := ?_)
    have hts := gtot_succ (f := wPg) h1
    rw [hwd] at hts
    exact G.upto (hJ (j + 1) (by omega) (by omega)) (by simp [clip, refA, hts]; omega)
  · try simp only [decide_eq_true_eq, decide_eq_false_iff_not, Bool.and_eq_true, Bool.and_eq_false_imp, Bool.or_eq_true, Bool.or_eq_false_iff, Bool.not_eq_true', Bool.not_eq_false', bne_iff_ne, beq_iff_eq, bne_eq_false_iff_eq, beq_eq_false_iff_ne, ne_eq, Int.ofNat_lt, Int.not_lt, Int.not_le, Int.ofNat_le, Nat.not_lt, Nat.not_le, gt_iff_lt, ge_iff_le] at h1
    refine G.exit rfl ?_
    apply G.seq
    refine G.rg tab_ok (kof_nil _) (hk := ?_)
    obtain rfl : j = ps.length := by omega
    rw [upG_full, List.take_length]
    refine G.finM (junk := []) tab_ok (hr := ?_) (hh := ?_) (hq := ?_) (hl := ?_)
    · rfl
    · simp
    · show (refLL _ _ && true) = true
      rw [pureLL_ref (pureLL_opv _)]
      rfl
    · rw [hφ0]; exact Nat.le_refl _
theorem markLinkS_mc (h : Heap) (ks : List LK) (n : Int) (hc1 : h = [some (5, ks.map okv)]) (hc2 : 0 ≤ n) (hc3 : n + (tK ks : Int) ≤ 1048576000) (hc4 : ks.length < 1099511627776) : MC Try.prog 61 h [.sl 0 0 ks.length, .int .i64 n] (.int .i64 (n + (tK ks : Int))) ([some (5, (mkG wLk mLk n ks).map okv)]) := by
  subst hc1
  unfold tK at hc3 ⊢
  refine MC.of tab_ok Try.func61 rfl (Nat.le_of_ble_eq_true rfl) fun w0 S0 fs0 φ0 hφ0 hq0 => ?_
  change G _ _ ⟨[(0, .sl 0 0 ks.length), (1, .int .i64 n)], _, 48⟩
  apply G.seq
  refine G.rg tab_ok (kof_nil _) (hk := ?_)
  apply G.seq
  apply G.seq
  refine G.rg tab_ok (kof_nil _) (hk := ?_)
  apply G.block
  refine G.fg [0, 1, 5] (hk := ?_)
  refine G.loopX (fun j : Nat => ⟨[(0, .sl 0 0 ks.length), (1, .int .i64 (n + (gtot wLk (ks.take j) : Int))), (5, .int .i64 j)], [some (5, (upG wLk mLk n ks j).map okv)], 48⟩) (fun j => j ≤ ks.length) (fun j => ks.length - j) (0) (Nat.zero_le _) (by simp [gtot_nil, upG_zero]) ?_
  intro j hj J hJ
  have hw : IntKind.i64.wrap ((j : Int) + 1) = (j : Int) + 1 := wrap64 (by omega) (by omega)
  apply G.seq
  apply G.seq
  refine G.rg tab_ok (kof_nil _) (hk := ?_)
  refine G.iff (h1 := fun h1 => ?_) (h2 := fun h1 => ?_)
  · try simp only [decide_eq_true_eq, decide_eq_false_iff_not, Bool.and_eq_true, Bool.and_eq_false_imp, Bool.or_eq_true, Bool.or_eq_false_iff, Bool.not_eq_true', Bool.not_eq_false', bne_iff_ne, beq_iff_eq, bne_eq_false_iff_eq, beq_eq_false_iff_ne, ne_eq, Int.ofNat_lt, Int.not_lt, Int.not_le, Int.ofNat_le, Nat.not_lt, Nat.not_le, gt_iff_lt, ge_iff_le] at h1
    apply G.skip
    apply G.seq
    apply G.block
    apply G.seq
    have hlt : j < (upG wLk mLk n ks j).length := by rw [upG_len n hj]; exact h1
    have hgd := upG_get (w := wLk) (m := mLk) n h1
    have htg := gtot_get (f := wLk) h1
    have hwd : wLk (ks.getD j default) = 4 + (ks.getD j default).tk.length := rfl
    have hw1 : IntKind.i64.wrap (n + (gtot wLk (ks.take j) : Int) + 1) = n + (gtot wLk (ks.take j) : Int) + 1 := wrap64 (by omega) (by omega)
    have hw2 : IntKind.i64.wrap (n + (gtot wLk (ks.take j) : Int) + 1 + 1) = n + (gtot wLk (ks.take j) : Int) + 1 + 1 := wrap64 (by omega) (by omega)
    have hw3 : IntKind.i64.wrap (n + (gtot wLk (ks.take j) : Int) + 1 + 1 + 1) = n + (gtot wLk (ks.take j) : Int) + 1 + 1 + 1 := wrap64 (by omega) (by omega)
    have hw4 : IntKind.i64.wrap (n + (gtot wLk (ks.take j) : Int) + 1 + 1 + 1 + 1) = n + (gtot wLk (ks.take j) : Int) + 1 + 1 + 1 + 1 := wrap64 (by omega) (by omega)
    have hgu : ((upG wLk mLk n ks j).map okv)[j]? = some [.int .i64 (ks.getD j default).fr, .int .i64 (ks.getD j default).ou, .int .i64 (ks.getD j default).to, .int .i64 (ks.getD j default).ip, .row true 1 ((ks.getD j default).tk.map iv)] := by
      rw [List.getElem?_map, List.getElem?_eq_getElem hlt]
      have e : (upG wLk mLk n ks j)[j] = (ks.getD j default) := by rw [← hgd]; simp [List.getD_eq_getElem?_getD, List.getElem?_eq_getElem hlt]
      rw [e]
      rfl
    have hr1 : ∀ e : List A, (((upG wLk mLk n ks j).map okv).set j e)[j]? = some e := row_self hgu
    have hr2 : ∀ e e2 : List A, (((upG wLk mLk n ks j).map okv).set j e).set j e2 = ((upG wLk mLk n ks j).map okv).set j e2 := fun _ _ => List.set_set ..
    have hrdc : ∀ (e : List A) (a b : Nat), rdCells (((upG wLk mLk n ks j).map okv).set j e) j a b = if ((e.drop a).take b).length = b ∧ b ≠ 0 then some ((e.drop a).take b) else none := fun e a b => by simp only [rdCells, hr1]
    refine G.rg tab_ok (kof_nil _) (hk := ?_)
    apply G.seq
    refine G.rg tab_ok (kof_nil _) (hk := ?_)
    apply G.seq
    refine G.rg tab_ok (kof_nil _) (hk := ?_)
    apply G.seq
    refine G.rg tab_ok (kof_nil _) (hk := ?_)
    apply G.seq
    refine G.rg tab_ok (kof_nil _) (hk := ?_)
    apply G.seq
    refine G.rg tab_ok (kof_nil _) (hk := ?_)
    apply G.seq
    refine G.fg [0, 1, 5] (hk := ?_)
    refine G.rg tab_ok (kof_nil _) (hk := ?_)
    apply G.seq
    refine G.rg tab_ok (kof_nil _) (hk := ?_)
    refine G.focus 0 j 4 (e := [.int .i64 (n + (gtot wLk (ks.take j) : Int)), .int .i64 (n + (gtot wLk (ks.take j) : Int) + 1), .int .i64 (n + (gtot wLk (ks.take j) : Int) + 1 + 1), .int .i64 (n + (gtot wLk (ks.take j) : Int) + 1 + 1 + 1), .row true 1 ((ks.getD j default).tk.map iv)]) (sz' := 1) (es' := (ks.getD j default).tk.map iv) rfl (hr1 _) rfl ?_
    simp only [withH]
    refine G.rgN 6 tab_ok (kof_nil _) (hk := ?_)
    refine G.cf [1] en_markIntS (markIntS_mc [some (1, (ks.getD j default).tk.map iv)] 0 _ (n + (gtot wLk (ks.take j) : Int) + 1 + 1 + 1 + 1) rfl (by omega) (by omega) (by omega)) (h := ?_)
    refine G.rgC tab_ok (kof_nil _) (hk := ?_)
    refine G.unfocusE 0 j 4 1 (f := okv) (l := (upG wLk mLk n ks j)) (mLk (n + (gtot wLk (ks.take j) : Int)) (ks.getD j default)) rfl hlt rfl rfl (by decide) (by first | rw [mkP_len] | rw [mkI_len] | simp [mkP_len, mkI_len]) (by first | exact pureLL_insv _ | exact pureLL_iv _) rfl ?_
    rw [upG_set n h1]
    refine G.pop [0, 1, 5] (h' := [some (5, (upG wLk mLk n ks (j + 1)).map okv)]) (junk := [none]) rfl ?_ (by rw [hφ0]; exact Nat.le_refl _) ?_
    · show (refLL _ _ && true) = true
      rw [pureLL_ref (pureLL_okv _)]
      rfl
    apply G.blk
    refine G.rg tab_ok (kof_nil _) (hk := ?_)
    refine G.fg [0, 1, 5] (hk := ?_)
    have hts := gtot_succ (f := wLk) h1
    rw [hwd] at hts
    exact G.upto (hJ (j + 1) (by omega) (by omega)) (by simp [clip, refA, hts]; omega)
  · try simp only [decide_eq_true_eq, decide_eq_false_iff_not, Bool.and_eq_true, Bool.and_eq_false_imp, Bool.or_eq_true, Bool.or_eq_false_iff, Bool.not_eq_true', Bool.not_eq_false', bne_iff_ne, beq_iff_eq, bne_eq_false_iff_eq, beq_eq_false_iff_ne, ne_eq, Int.ofNat_lt, Int.not_lt, Int.not_le, Int.ofNat_le, Nat.not_lt, Nat.not_le, gt_iff_lt, ge_iff_le] at h1
    refine G.exit rfl ?_
    apply G.seq
    refine G.rg tab_ok (kof_nil _) (hk := ?_)
    obtain rfl : j = ks.length := by omega
    rw [upG_full, List.take_length]
    refine G.finM (junk := []) tab_ok (hr := ?_) (hh := ?_) (hq := ?_) (hl := ?_)
    · rfl
    · simp
    · show (refLL _ _ && true) = true
      rw [pureLL_ref (pureLL_okv _)]
      rfl
    · rw [hφ0]; exact Nat.le_refl _
theorem en_markProgramS : Enters Try.prog 60 := enters_of Try.func60 rfl rfl
theorem en_markLinkS : Enters Try.prog 61 := enters_of Try.func61 rfl rfl
theorem markNetwork_mc (h : Heap) (ps : List PG) (ks : List LK) (n : Int) (hc1 : h = [some (3, ps.map opv), some (5, ks.map okv)]) (hc2 : 0 ≤ n) (hc3 : n + (tP ps : Int) + (tK ks : Int) ≤ 1048576000) (hc4 : ps.length < 1099511627776) (hc5 : ks.length < 1099511627776) : MC Try.prog 18 h [.agg [.sl 0 0 ps.length, .sl 1 0 ks.length], .int .i64 n] (.int .i64 (n + (tP ps : Int) + (tK ks : Int))) ([some (3, (mkPS n ps).map opv), some (5, (mkKS (n + (tP ps : Int)) ks).map okv)]) := by
  subst hc1
  refine MC.of tab_ok Try.func18 rfl (Nat.le_of_ble_eq_true rfl) fun w0 S0 fs0 φ0 hφ0 hq0 => ?_
  change G _ _ ⟨[(0, .agg [.sl 0 0 ps.length, .sl 1 0 ks.length]), (1, .int .i64 n)], _, 14⟩
  apply G.seq
  refine G.rg tab_ok (kof_nil _) (hk := ?_)
  apply G.seq
  refine G.rgN 3 tab_ok (kof_nil _) (hk := ?_)
  refine G.cf [0] en_markProgramS (markProgramS_mc _ ps n rfl (by omega) (by omega) hc4) (h := ?_)
  refine G.rgC tab_ok (kof_nil _) (hk := ?_)
  apply G.seq
  refine G.rgN 3 tab_ok (kof_nil _) (hk := ?_)
  refine G.cf [1] en_markLinkS (markLinkS_mc _ ks (n + (tP ps : Int)) rfl (by omega) (by omega) hc5) (h := ?_)
  refine G.rgC tab_ok (kof_nil _) (hk := ?_)
  apply G.seq
  refine G.rg tab_ok (kof_nil _) (hk := ?_)
  refine G.finM (junk := [some (2, [[.sl 0 0 ps.length, .sl 1 0 ks.length]])]) tab_ok (hr := ?_) (hh := ?_) (hq := ?_) (hl := ?_)
  · rfl
  · rfl
  · show (refLL _ _ && (refLL _ _ && true)) = true
    rw [pureLL_ref (pureLL_opv _), pureLL_ref (pureLL_okv _)]
    rfl
  · rw [hφ0]; exact Nat.le_refl _
end Go.Proofs.Ytahcojaklooliaa.Ab

namespace Go.Proofs.Ytahcojaklooliaa.Ab
open Go
set_option linter.unusedVariables false
set_option linter.unusedSimpArgs false
set_option maxHeartbeats 4000000
end Go.Proofs.Ytahcojaklooliaa.Ab
