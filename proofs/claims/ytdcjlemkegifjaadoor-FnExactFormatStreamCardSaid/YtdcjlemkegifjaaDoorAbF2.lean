/- Walks of functions. -/
import Derived.Test.YtdcjlemkegifjaaDoorAbF1
namespace Go.Proofs.YtdcjlemkegifjaaDoor.Ab
open Go
set_option linter.unusedVariables false
set_option linter.unusedSimpArgs false
set_option maxHeartbeats 4000000
theorem ok_specFormat : Kn.ok Tryd.prog (kof [(13, q_specIsStream), (14, q_l1Number)]) := kof_cons k_specIsStream (kof_cons k_l1Number ((kof_nil _)))
theorem specFormat_ac (rs : List Int) (hc1 : rs.length < 17592186044416) : AC Tryd.prog 5 [.row false 1 (rs.map iv)] (.str (sb (fmtO rs))) := by
 have e_specIsStream := e_specIsStream
 have e_l1Number := e_l1Number
 obtain ⟨D, hD⟩ : ∃ x, rs.drop 1 = x := ⟨_, rfl⟩
 have hDl : rs.length - 1 = D.length := by rw [← hD, List.length_drop]
 have hdm : (rs.map iv).drop 1 = D.map iv := by rw [← List.map_drop, hD]
 obtain ⟨y, hy⟩ : ∃ x, rs.getD 0 default = x := ⟨_, rfl⟩
 refine AC.of tab_ok Tryd.func5 rfl (Nat.le_of_ble_eq_true rfl) fun w0 S0 => ?_
 change G _ _ ⟨[(0, .row false 1 (rs.map iv))], [], 30⟩
 apply G.seq
 refine G.rg tab_ok ok_specFormat (hk := ?_)
 apply G.seq
 apply G.seq
 refine G.rg tab_ok ok_specFormat (hk := ?_)
 refine G.iff (h1 := fun h1 => ?_) (h2 := fun h1 => ?_)
 ·try simp only [zqz] at h1
  apply G.seq
  refine G.rg tab_ok ok_specFormat (hk := ?_)
  refine G.fin tab_ok (hr := ?_)
  simp only [oneOrTup]
  unfold fmtO
  simp only [h1]
  rfl
 ·try simp only [zqz] at h1
  apply G.skip
  apply G.seq
  apply G.seq
  refine G.rg tab_ok ok_specFormat (hk := ?_)
  refine G.iff (h1 := fun h2 => ?_) (h2 := fun h2 => ?_)
  ·try simp only [zqz] at h2
   apply G.seq
   refine G.rg tab_ok ok_specFormat (hk := ?_)
   have e : rs = [] := List.eq_nil_of_length_eq_zero (by simpa using h2)
   subst e
   refine G.fin tab_ok (hr := ?_)
   rfl
  ·try simp only [zqz] at h2
   apply G.skip
   apply G.seq
   have hst : strOk rs = true := h1
   have hne : ¬ rs = [] := by rintro rfl; exact h2 rfl
   have hst2 := hst
   simp only [strOk, Bool.and_eq_true, List.all_eq_true, decide_eq_true_eq] at hst2
   obtain ⟨ht, hl⟩ := hst2
   have hlp : 0 < rs.length := List.length_pos_iff.2 hne
   have hyt := tok_iffN.1 (ht y (by rw [← hy]; cases rs with | nil => exact absurd rfl hne | cons a b => simp))
   have hDt : ∀ x ∈ D, tok x = true := fun x hx => ht x (List.mem_of_mem_drop (by rw [hD]; exact hx))
   have hq0 : (rs.map iv)[0]? = some [.int .i64 y] := by rw [← hy]; cases rs with | nil => exact absurd rfl hne | cons a b => rfl
   have hq1i : (0 : Int) < (rs.length : Int) := by omega
   have hq1n : 1 ≤ rs.length := by omega
   have hq1j : (1 : Int) ≤ (rs.length : Int) := by omega
   have hyl := itoa_len (n := y) (by omega) (by omega)
   have hya : -4611686018427387904 ≤ y := by omega
   have hyb : y ≤ 4611686018427387904 := by omega
   have hfm : fmtO rs = Lib.itoa y ++ Lib.joinTail [44] (D.map Lib.itoa) := by unfold fmtO; rw [if_pos hst, if_neg hne, fmtL_eq hlp, hy, hD]
   have hDb : D.length ≤ 400 := by omega
   refine G.rg tab_ok ok_specFormat (hk := ?_)
   apply G.seq
   apply G.seq
   refine G.rg tab_ok ok_specFormat (hk := ?_)
   apply G.block
   refine G.cn [3, 17, 18, 19] [] (h := ?_)
   refine G.loopX (fun j : Nat => ⟨[(3, .str (sb (Lib.itoa y ++ Lib.joinTail [44] ((D.take j).map Lib.itoa)))), (17, .row false 1 (D.map iv)), (18, .int .i64 D.length), (19, .int .i64 j)], [], 30⟩) (fun j => j ≤ D.length) (fun j => D.length - j) (0) (Nat.zero_le _) (by simp [Lib.joinTail]) ?_
   intro j hj J hJ
   have hwj : IntKind.i64.wrap ((j : Int) + 1) = ((j + 1 : Nat) : Int) := by rw [wrap64 (by omega) (by omega)]; omega
   apply G.seq
   refine G.rg tab_ok ok_specFormat (hk := ?_)
   apply G.seq
   refine G.iff (h1 := fun h3 => ?_) (h2 := fun h3 => ?_)
   ·try simp only [zqz] at h3
    apply G.skip
    apply G.seq
    apply G.block
    apply G.seq
    have hjD : j < D.length := by omega
    have htl := tail_snoc hjD
    have hzt := tok_iffN.1 (hDt (D.getD j default) (by rw [List.getD_eq_getElem?_getD, List.getElem?_eq_getElem hjD]; exact List.getElem_mem hjD))
    have hza : -4611686018427387904 ≤ D.getD j default := by omega
    have hzb : D.getD j default ≤ 4611686018427387904 := by omega
    have hzl := itoa_len hza hzb
    have htn := tail_len (ds := D.take j) (fun x hx => hDt x (List.mem_of_mem_take hx))
    have hmj : (D.take j).length ≤ 400 := by rw [List.length_take]; omega
    obtain ⟨T, hT⟩ : ∃ x, Lib.joinTail [44] ((D.take j).map Lib.itoa) = x := ⟨_, rfl⟩
    rw [hT] at htn htl ⊢
    have hs1 : strFits ((Lib.itoa y).length + T.length) 1 = true := strFits_of (by omega)
    have hs2 : strFits ((Lib.itoa y).length + T.length + 1) (Lib.itoa (D.getD j default)).length = true := strFits_of (by omega)
    have hs3 : strFits ((Lib.itoa y).length + (T.length + 1)) (Lib.itoa (D.getD j default)).length = true := strFits_of (by omega)
    refine G.rg tab_ok ok_specFormat (hk := ?_)
    refine G.rg tab_ok ok_specFormat (hk := ?_)
    apply G.blk
    refine G.rg tab_ok ok_specFormat (hk := ?_)
    refine G.cn [3, 17, 18, 19] [] (h := ?_)
    exact G.upto (hJ (j + 1) (by omega) (by omega)) (by rw [htl]; simp)
   ·try simp only [zqz] at h3
    refine G.exit rfl ?_
    apply G.seq
    refine G.rg tab_ok ok_specFormat (hk := ?_)
    obtain rfl : j = D.length := by omega
    rw [List.take_length]
    refine G.fin tab_ok (hr := ?_)
    simp only [oneOrTup, hfm]
def r_specFormat (xs0 : List A) (rr : A) : Prop := ∃ (rs : List Int), (rs.length < 17592186044416) ∧ xs0 = [.row false 1 (rs.map iv)] ∧ rr = .str (sb (fmtO rs))
noncomputable def q_specFormat : List A → Option A := kgr r_specFormat
theorem k_specFormat : KOk Tryd.prog (5, q_specFormat) := kgr_ok (enters_of Tryd.func5 rfl rfl) (by rintro xs0 rr ⟨rs, hc1, rfl, rfl⟩; exact specFormat_ac rs hc1)
theorem e_specFormat : ∀ (rs : List Int), (rs.length < 17592186044416) → q_specFormat [.row false 1 (rs.map iv)] = some (.str (sb (fmtO rs))) := by
 intro rs hc1
 refine kgr_eq (fun xs0 rr r2 h h2 => ?_) ⟨rs, hc1, rfl, rfl⟩
 obtain ⟨rs1, _, e1, rfl⟩ := h; obtain ⟨rs2, _, e2, rfl⟩ := h2
 rw [e1] at e2
 simp only [List.cons.injEq, A.row.injEq, iv_inj, true_and, and_true] at e2
 subst e2
 rfl
end Go.Proofs.YtdcjlemkegifjaaDoor.Ab
