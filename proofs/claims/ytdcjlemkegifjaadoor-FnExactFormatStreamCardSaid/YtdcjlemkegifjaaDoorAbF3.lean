/- Walks of functions. -/
import Derived.Test.YtdcjlemkegifjaaDoorAbItJ
import Derived.Test.YtdcjlemkegifjaaDoorAbF1
namespace Go.Proofs.YtdcjlemkegifjaaDoor.Ab
open Go
set_option linter.unusedVariables false
set_option linter.unusedSimpArgs false
set_option maxHeartbeats 4000000
theorem joinX_ac (xs : List (List UInt8)) (hc1 : xs.length ≤ 140737488355328) (hc2 : (Lib.join xs [44]).length ≤ 140737488355328) : AC Tryd.prog 17 [.row false 1 (xs.map sv), .str ⟨#[44]⟩] (.str (sb (Lib.join xs [44]))) := by
 exact joinW hc1 hc2
def r_joinX (xs0 : List A) (rr : A) : Prop := ∃ (xs : List (List UInt8)), (xs.length ≤ 140737488355328) ∧ ((Lib.join xs [44]).length ≤ 140737488355328) ∧ xs0 = [.row false 1 (xs.map sv), .str ⟨#[44]⟩] ∧ rr = .str (sb (Lib.join xs [44]))
noncomputable def q_joinX : List A → Option A := kgr r_joinX
theorem k_joinX : KOk Tryd.prog (17, q_joinX) := kgr_ok (enters_of Tryd.func17 rfl rfl) (by rintro xs0 rr ⟨xs, hc1, hc2, rfl, rfl⟩; exact joinX_ac xs hc1 hc2)
theorem e_joinX : ∀ (xs : List (List UInt8)), (xs.length ≤ 140737488355328) → ((Lib.join xs [44]).length ≤ 140737488355328) → q_joinX [.row false 1 (xs.map sv), .str ⟨#[44]⟩] = some (.str (sb (Lib.join xs [44]))) := by
 intro xs hc1 hc2
 refine kgr_eq (fun xs0 rr r2 h h2 => ?_) ⟨xs, hc1, hc2, rfl, rfl⟩
 obtain ⟨xs1, _, _, e1, rfl⟩ := h; obtain ⟨xs2, _, _, e2, rfl⟩ := h2
 rw [e1] at e2
 simp only [List.cons.injEq, A.row.injEq, sv_inj, true_and, and_true] at e2
 subst e2
 rfl
theorem ok_implFormat : Kn.ok Tryd.prog (kof [(15, q_implIsStream), (17, q_joinX)]) := kof_cons k_implIsStream (kof_cons k_joinX ((kof_nil _)))
theorem implFormat_aw (rs : List Int) (hc1 : rs.length < 17592186044416) : ACw TabC Tryd.prog 7 [.row false 1 (rs.map iv)] (.str (sb (fmtO rs))) := by
 have e_implIsStream := e_implIsStream
 have e_joinX := e_joinX
 have hv1 := pureLL_sv
 have hv2 := roLL_sv
 have hv3 := noLoanLL_sv
 have hv4 := rnLL_sv
 have hv5 := refsLL_sv
 refine ACw.of tab_ok Tryd.func7 rfl (Nat.le_of_ble_eq_true rfl) fun w0 S0 hCw => ?_
 change G _ _ ⟨[(0, .row false 1 (rs.map iv))], [], 27⟩
 apply G.seq
 refine G.rg tab_ok ok_implFormat (hk := ?_)
 apply G.seq
 apply G.seq
 refine G.rg tab_ok ok_implFormat (hk := ?_)
 refine G.iff (h1 := fun h1 => ?_) (h2 := fun h1 => ?_)
 ·try simp only [zqz] at h1
  apply G.seq
  refine G.rg tab_ok ok_implFormat (hk := ?_)
  refine G.fin tab_ok (hr := ?_)
  simp only [oneOrTup]
  unfold fmtO
  simp only [h1]
  rfl
 ·try simp only [zqz] at h1
  apply G.skip
  apply G.seq
  apply G.seq
  refine G.rg tab_ok ok_implFormat (hk := ?_)
  refine G.iff (h1 := fun h2 => ?_) (h2 := fun h2 => ?_)
  ·try simp only [zqz] at h2
   apply G.seq
   refine G.rg tab_ok ok_implFormat (hk := ?_)
   have e : rs = [] := List.eq_nil_of_length_eq_zero (by simpa using h2)
   subst e
   refine G.fin tab_ok (hr := ?_)
   rfl
  ·try simp only [zqz] at h2
   apply G.skip
   apply G.seq
   have hst : strOk rs = true := h1
   have hne : ¬ rs = [] := by rintro rfl; exact h2 rfl
   have hst2 := hst
   simp only [strOk, Bool.and_eq_true, List.all_eq_true, decide_eq_true_eq] at hst2
   obtain ⟨ht, hl⟩ := hst2
   have hfm : fmtO rs = fmtL rs := by unfold fmtO; rw [if_pos hst, if_neg hne]
   refine G.rg tab_ok ok_implFormat (hk := ?_)
   apply G.seq
   apply G.seq
   refine G.rg tab_ok ok_implFormat (hk := ?_)
   apply G.block
   refine G.nm [3, 13, 14, 15] (h := ?_)
   refine G.loopX (fun j : Nat => ⟨[(3, .sl 0 0 j), (13, .row false 1 (rs.map iv)), (14, .int .i64 rs.length), (15, .int .i64 j)], [some (1, ((rs.take j).map Lib.itoa).map sv)], 27⟩) (fun j => j ≤ rs.length) (fun j => rs.length - j) (0) (Nat.zero_le _) (by simp) ?_
   intro j hj J hJ
   have hwj : IntKind.i64.wrap ((j : Int) + 1) = ((j + 1 : Nat) : Int) := by rw [wrap64 (by omega) (by omega)]; omega
   apply G.seq
   refine G.rg tab_ok ok_implFormat (hk := ?_)
   apply G.seq
   refine G.iff (h1 := fun h3 => ?_) (h2 := fun h3 => ?_)
   ·try simp only [zqz] at h3
    apply G.skip
    apply G.seq
    apply G.block
    apply G.seq
    have hjr : j < rs.length := by omega
    have hzt := tok_iffN.1 (ht (rs.getD j default) (by rw [List.getD_eq_getElem?_getD, List.getElem?_eq_getElem hjr]; exact List.getElem_mem hjr))
    have hza : -4611686018427387904 ≤ rs.getD j default := by omega
    have hzb : rs.getD j default ≤ 4611686018427387904 := by omega
    have hml : min j rs.length = j := by omega
    have htk : List.take j (((rs.take j).map Lib.itoa).map sv) = ((rs.take j).map Lib.itoa).map sv := List.take_of_length_le (by simp; omega)
    have hsn : ((rs.take j).map Lib.itoa).map sv ++ [[.str (sb (Lib.itoa (rs.getD j default)))]] = ((rs.take (j + 1)).map Lib.itoa).map sv := by rw [← take_snocN hjr, List.map_append, List.map_append]; rfl
    have hb1 : ((j + 1 : Nat) : Int) ≤ 4611686018427387904 := by omega
    have hb2 : (j + 1) * 16 ≤ 70368744177664 := by omega
    refine G.rg tab_ok ok_implFormat (hk := ?_)
    refine G.rgN 2 tab_ok ok_implFormat (hk := ?_)
    refine G.callW tab_lasts hCw rfl en_itoa (itoaW hza hzb) rfl rfl rfl (by exact rfl) rfl (by exact rfl) ?_
    refine G.rgC tab_ok ok_implFormat (hk := ?_)
    apply G.blk
    refine G.rg tab_ok ok_implFormat (hk := ?_)
    refine G.nm [3, 13, 14, 15] (h := ?_)
    exact G.upto (hJ (j + 1) (by omega) (by omega)) (by simp; omega)
   ·try simp only [zqz] at h3
    refine G.exit rfl ?_
    apply G.seq
    obtain rfl : j = rs.length := by omega
    rw [List.take_length]
    have hml : rs.length ≤ 140737488355328 := by omega
    have hjn : (Lib.join (rs.map Lib.itoa) [44]).length ≤ 140737488355328 := by have := fmtL_len ht hl; unfold fmtL at this; omega
    have htk : List.take rs.length ((rs.map Lib.itoa).map sv) = (rs.map Lib.itoa).map sv := List.take_of_length_le (by simp)
    refine G.rg tab_ok ok_implFormat (hk := ?_)
    refine G.fin tab_ok (hr := ?_)
    simp only [oneOrTup, hfm]
    rfl
end Go.Proofs.YtdcjlemkegifjaaDoor.Ab
