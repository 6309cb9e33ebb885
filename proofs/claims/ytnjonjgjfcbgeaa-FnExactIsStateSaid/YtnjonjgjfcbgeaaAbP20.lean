/- Walks of functions of the program: what each answers, for all arguments that meet its conditions. -/
import Derived.Test.YtnjonjgjfcbgeaaAbP12
import Derived.Test.YtnjonjgjfcbgeaaAbAuto2
namespace Go.Proofs.Ytnjonjgjfcbgeaa.Ab
open Go
set_option linter.unusedVariables false
set_option linter.unusedSimpArgs false
set_option maxHeartbeats 4000000

theorem ok_l2Make : Kn.ok Try.prog (kof [(110, q_l1Copy)]) := kof_cons k_l1Copy ((kof_nil _))
def pad4 (x : List Int) : I4 := ((x ++ [0, 0, 0]).getD 0 default, (x ++ [0, 0, 0]).getD 1 default, (x ++ [0, 0, 0]).getD 2 default, (x ++ [0, 0, 0]).getD 3 default)
def cdI (code : List (List Int)) (j : Nat) : List I4 := (code.take j).map pad4
theorem cdI_zero (code : List (List Int)) : cdI code 0 = [] := by simp [cdI]
theorem cdI_full (code : List (List Int)) : cdI code code.length = code.map pad4 := by simp [cdI]
theorem cdI_len (code : List (List Int)) {j : Nat} (h : j ≤ code.length) : (cdI code j).length = j := by simp [cdI]; omega
theorem cdI_succ {code : List (List Int)} {j : Nat} (h : j < code.length) : cdI code (j + 1) = cdI code j ++ [pad4 (code.getD j default)] := by
  simp only [cdI, List.take_succ_eq_append_getElem h, List.map_append, List.map_cons, List.map_nil]
  simp [h]
def ivL (x : List Int) : List A := [.row false 1 (x.map iv)]
theorem ivL_eq (x : List Int) : ivL x = [.row false 1 (x.map iv)] := rfl
theorem pureLL_ivL (l : List (List Int)) : pureLL (l.map ivL) = true := pureLL_all (fun _ => rfl) l
theorem ivL_inj {l l' : List (List Int)} : l.map ivL = l'.map ivL ↔ l = l' := ⟨map_inj (fun x y h => by simpa [ivL, iv_inj] using h), fun h => by rw [h]⟩
theorem cat3 (x : List Int) : x.map iv ++ [[.int .i64 0], [.int .i64 0], [.int .i64 0]] = (x ++ [0, 0, 0]).map iv := by simp [iv]
theorem cdI_pure (code : List (List Int)) (j : Nat) (e : I4) : pureLL (List.map insv (cdI code j) ++ [insv e]) = true := by rw [pureLL_app, pureLL_insv]; rfl
theorem l2Make_ac (i : Int) (o : Int) (code : List (List Int)) (hc1 : code.length ≤ 24) (hc2 : ∀ x ∈ code, 1 ≤ x.length ∧ x.length ≤ 4) : AC Try.prog 140 [.int .i64 i, .int .i64 o, .row false 1 (code.map ivL)] (.agg [.int .i64 i, .int .i64 o, .row true 4 ((code.map pad4 ++ [(8, 0, 0, 0)]).map insv)]) := by
  have e_l1Copy := e_l1Copy
  have hivl := ivL_eq
  have hc3 := cat3
  have hp8 : ∀ j : Nat, pureLL (List.map insv (cdI code j) ++ [[.int .i64 8, .int .i64 0, .int .i64 0, .int .i64 0]]) = true := fun j => by rw [pureLL_app, pureLL_insv]; rfl
  refine AC.of tab_ok Try.func140 rfl (Nat.le_of_ble_eq_true rfl) fun w0 S0 => ?_
  change G _ _ ⟨[(0, .int .i64 i), (1, .int .i64 o), (2, .row false 1 (code.map ivL))], [], 50⟩
  apply G.seq
  refine G.rg tab_ok ok_l2Make (hk := ?_)
  apply G.seq
  refine G.rg tab_ok ok_l2Make (hk := ?_)
  apply G.seq
  apply G.seq
  refine G.rg tab_ok ok_l2Make (hk := ?_)
  apply G.block
  refine G.focusNil 1 0 2 4 rfl rfl rfl ?_
  simp only [withH]
  refine G.nm [6, 7, 14, 15, 16] (h := ?_)
  refine G.loopX (fun j : Nat => ⟨[(6, .ptr 0 0 0), (7, .ptr 1 0 0), (14, .row false 1 (code.map ivL)), (15, .int .i64 code.length), (16, .int .i64 j)], [some (3, [[.int .i64 0, .int .i64 0, .nils]]), some (3, [[.int .i64 i, .int .i64 o, .sl 2 0 (cdI code j).length]]), some (4, (cdI code j).map insv)], 50⟩) (fun j => j ≤ code.length) (fun j => code.length - j) (0) (Nat.zero_le _) (by simp [cdI_zero]) ?_
  intro j hj J hJ
  have hw : IntKind.i64.wrap ((j : Int) + 1) = (j : Int) + 1 := wrap64 (by omega) (by omega)
  have hlj : (cdI code j).length ≤ 24 := by rw [cdI_len code hj]; omega
  have hb3 : (((cdI code j).length + 1 : Nat) : Int) ≤ 4611686018427387904 := by omega
  have hb4 : ((cdI code j).length + 1) * 32 ≤ 70368744177664 := by omega
  apply G.seq
  refine G.rg tab_ok ok_l2Make (hk := ?_)
  apply G.seq
  refine G.iff (h1 := fun h1 => ?_) (h2 := fun h1 => ?_)
  · try simp only [decide_eq_true_eq, decide_eq_false_iff_not, Bool.and_eq_true, Bool.and_eq_false_imp, Bool.or_eq_true, Bool.or_eq_false_iff, Bool.not_eq_true', Bool.not_eq_false', bne_iff_ne, beq_iff_eq, bne_eq_false_iff_eq, beq_eq_false_iff_ne, ne_eq, Int.ofNat_lt, Int.not_lt, Int.not_le, Int.ofNat_le, Nat.not_lt, Nat.not_le, gt_iff_lt, ge_iff_le] at h1
    apply G.skip
    apply G.seq
    apply G.block
    apply G.seq
    refine G.rg tab_ok ok_l2Make (hk := ?_)
    apply G.seq
    generalize hx : code.getD j default = x
    have hmem : x ∈ code := by rw [← hx]; simp [h1]
    have hx1 := (hc2 x hmem).1
    have hx4 := (hc2 x hmem).2
    have hxb : x.length ≤ 1048576 := by omega
    have hb1 : ((x.length + 3 : Nat) : Int) ≤ 4611686018427387904 := by omega
    have hb2 : (x.length + 3) * 8 ≤ 70368744177664 := by omega
    refine G.rg tab_ok ok_l2Make (hk := ?_)
    have k0 : 0 < x.length + 3 := by omega
    have k1 : 1 < x.length + 3 := by omega
    have k2 : 2 < x.length + 3 := by omega
    have k3 : 3 < x.length + 3 := by omega
    have g0 : (0 : Int) < ((x.length + 3 : Nat) : Int) := by omega
    have g1 : (1 : Int) < ((x.length + 3 : Nat) : Int) := by omega
    have g2 : (2 : Int) < ((x.length + 3 : Nat) : Int) := by omega
    have g3 : (3 : Int) < ((x.length + 3 : Nat) : Int) := by omega
    refine G.dr mixed tab_ok ok_l2Make [0, 1, 2, 3, 4, 5, 6, 7, 8, 9, 10, 11, 12, 13, 14, 15, 16, 17, 18] (hk := ?_)
    apply G.blk
    refine G.rg tab_ok ok_l2Make (hk := ?_)
    refine G.nm [6, 7, 14, 15, 16] (h := ?_)
    have hcs : List.map insv (cdI code j) ++ [[.int .i64 ((x ++ [0, 0, 0]).getD 0 default), .int .i64 ((x ++ [0, 0, 0]).getD 1 default), .int .i64 ((x ++ [0, 0, 0]).getD 2 default), .int .i64 ((x ++ [0, 0, 0]).getD 3 default)]] = List.map insv (cdI code (j + 1)) := by rw [cdI_succ h1, hx]; simp [insv, pad4]
    have hl1 : (cdI code j).length + 1 = (cdI code (j + 1)).length := by rw [cdI_len code hj, cdI_len code (show j + 1 ≤ code.length by omega)]
    exact G.upto (hJ (j + 1) (by omega) (by omega)) (by rw [hcs, hl1]; simp)
  · try simp only [decide_eq_true_eq, decide_eq_false_iff_not, Bool.and_eq_true, Bool.and_eq_false_imp, Bool.or_eq_true, Bool.or_eq_false_iff, Bool.not_eq_true', Bool.not_eq_false', bne_iff_ne, beq_iff_eq, bne_eq_false_iff_eq, beq_eq_false_iff_ne, ne_eq, Int.ofNat_lt, Int.not_lt, Int.not_le, Int.ofNat_le, Nat.not_lt, Nat.not_le, gt_iff_lt, ge_iff_le] at h1
    refine G.exit rfl ?_
    apply G.seq
    refine G.rg tab_ok ok_l2Make (hk := ?_)
    apply G.seq
    refine G.rg tab_ok ok_l2Make (hk := ?_)
    refine G.fin tab_ok (hr := ?_)
    obtain rfl : j = code.length := by omega
    rw [List.take_of_length_le (by simp), cdI_full]
    simp [oneOrTup, insv]
def r_l2Make (xs0 : List A) (rr : A) : Prop := ∃ (i : Int) (o : Int) (code : List (List Int)), (code.length ≤ 24) ∧ (∀ x ∈ code, 1 ≤ x.length ∧ x.length ≤ 4) ∧ xs0 = [.int .i64 i, .int .i64 o, .row false 1 (code.map ivL)] ∧ rr = .agg [.int .i64 i, .int .i64 o, .row true 4 ((code.map pad4 ++ [(8, 0, 0, 0)]).map insv)]
noncomputable def q_l2Make : List A → Option A := kgr r_l2Make
theorem k_l2Make : KOk Try.prog (140, q_l2Make) := kgr_ok (enters_of Try.func140 rfl rfl) (by rintro xs0 rr ⟨i, o, code, hc1, hc2, rfl, rfl⟩; exact l2Make_ac i o code hc1 hc2)
theorem e_l2Make : ∀ (i : Int) (o : Int) (code : List (List Int)), (code.length ≤ 24) → (∀ x ∈ code, 1 ≤ x.length ∧ x.length ≤ 4) → q_l2Make [.int .i64 i, .int .i64 o, .row false 1 (code.map ivL)] = some (.agg [.int .i64 i, .int .i64 o, .row true 4 ((code.map pad4 ++ [(8, 0, 0, 0)]).map insv)]) := by
  intro i o code hc1 hc2
  refine kgr_eq (fun xs0 rr r2 h h2 => ?_) ⟨i, o, code, hc1, hc2, rfl, rfl⟩
  obtain ⟨i1, o1, code1, _, _, e1, rfl⟩ := h; obtain ⟨i2, o2, code2, _, _, e2, rfl⟩ := h2
  rw [e1] at e2
  simp only [List.cons.injEq, A.int.injEq, A.row.injEq, ivL_inj, true_and, and_true] at e2
  simp [e2]

end Go.Proofs.Ytnjonjgjfcbgeaa.Ab
