/- Walks of functions of the program: what each answers, for all arguments that meet its conditions. -/
import Derived.Test.YtimgfinlbhodhaaAbC4
import Derived.Test.YtimgfinlbhodhaaAbByt
namespace Go.Proofs.Ytimgfinlbhodhaa.Ab
open Go
set_option linter.unusedVariables false
set_option linter.unusedSimpArgs false
set_option maxHeartbeats 4000000
theorem lawFresh_ac (bs : List Int) (c : Int) (hc1 : BW bs) (hc2 : bs.length < 1099511627776) (hc3 : 0 ≤ c) (hc4 : c ≤ 1000000) : AC Try.prog 23 [.row false 1 (bs.map bv), .int .i64 c] (.row true 1 ((mkFresh bs c).map bv)) := by
  have hbv1 := roLL_bv
  have hbv2 := noLoanLL_bv
  have hbv3 := copyable_bv
  have hbv4 := pureLL_bv
  have hbv5 := rnLL_bv
  have hbv6 := refsLL_bv
  have hbv7 := bv_eq
  refine AC.of tab_ok Try.func23 rfl (Nat.le_of_ble_eq_true rfl) fun w0 S0 => ?_
  change G _ _ ⟨[(0, .row false 1 (bs.map bv)), (1, .int .i64 c)], [], 37⟩
  apply G.seq
  refine G.rg tab_ok (kof_nil _) (hk := ?_)
  apply G.seq
  refine G.rg tab_ok (kof_nil _) (hk := ?_)
  apply G.seq
  apply G.seq
  refine G.rg tab_ok (kof_nil _) (hk := ?_)
  apply G.block
  refine G.nm [0, 1, 5, 6] (h := ?_)
  refine G.loopX (fun j : Nat => ⟨[(0, .row false 1 (bs.map bv)), (1, .int .i64 c), (5, .sl 0 0 (freshL bs c j).length), (6, .int .i64 j)], [some (1, (freshL bs c j).map bv)], 37⟩) (fun j => j ≤ min bs.length 600) (fun j => bs.length - j) (0) (Nat.zero_le _) (by simp [freshL, bv]) ?_
  intro j hj J hJ
  have hw : IntKind.i64.wrap ((j : Int) + 1) = (j : Int) + 1 := wrap64 (by omega) (by omega)
  have hlb : (freshL bs c j).length ≤ 601 := by rw [freshL_len]; omega
  have hlt : List.take (freshL bs c j).length ((freshL bs c j).map bv) = (freshL bs c j).map bv := List.take_of_length_le (by simp)
  have hq1 : (((freshL bs c j).length + 1 : Nat) : Int) ≤ 4611686018427387904 := by omega
  have hq2 : (freshL bs c j).length + 1 ≤ 70368744177664 := by omega
  apply G.seq
  apply G.seq
  refine G.rg tab_ok (kof_nil _) (hk := ?_)
  refine G.iff (h1 := fun h1 => ?_) (h2 := fun h1 => ?_)
  · try simp only [zz, bne_iff_ne, beq_iff_eq, bne_eq_false_iff_eq, beq_eq_false_iff_ne, ne_eq, gt_iff_lt, ge_iff_le] at h1
    apply G.skip
    apply G.seq
    apply G.block
    have hk : j < bs.length := by omega
    have hby := hc1.ok _ (List.getElem_mem hk)
    have hbe : bs.getD j default = bs[j] := by rw [List.getD_eq_getElem?_getD, List.getElem?_eq_getElem hk]; rfl
    have hget : (List.map bv bs)[j]? = some [.int .u8 bs[j]] := by simp [hk, bv]
    have hwx : IntKind.i64.wrap bs[j] = bs[j] := wrap64 (by omega) (by omega)
    have hm7 : (j : Int).tmod 7 = ((j % 7 : Nat) : Int) := by rw [Int.tmod_eq_emod_of_nonneg (by omega)]; omega
    have hw1 : IntKind.i64.wrap (bs[j] * 3) = bs[j] * 3 := wrap64 (by omega) (by omega)
    have hw2 : IntKind.i64.wrap (((j % 7 : Nat) : Int) + 1) = ((j % 7 : Nat) : Int) + 1 := wrap64 (by omega) (by omega)
    have hmc := mul_cc (a := c) (b := ((j % 7 : Nat) : Int) + 1) (M := 1000000) (N := 7) (by omega) (by omega)
    have hw3 : IntKind.i64.wrap (c * (((j % 7 : Nat) : Int) + 1)) = c * (((j % 7 : Nat) : Int) + 1) := wrap64 (by omega) (by omega)
    have hw4 : IntKind.i64.wrap (bs[j] * 3 + c * (((j % 7 : Nat) : Int) + 1)) = bs[j] * 3 + c * (((j % 7 : Nat) : Int) + 1) := wrap64 (by omega) (by omega)
    refine G.rg tab_ok (kof_nil _) (hk := ?_)
    apply G.blk
    refine G.rg tab_ok (kof_nil _) (hk := ?_)
    refine G.nm [0, 1, 5, 6] (h := ?_)
    exact G.upto (hJ (j + 1) (by omega) (by omega)) (by simp only [freshL, hbe]; simp [bv])
  · try simp only [zz, bne_iff_ne, beq_iff_eq, bne_eq_false_iff_eq, beq_eq_false_iff_ne, ne_eq, gt_iff_lt, ge_iff_le] at h1
    refine G.exit rfl ?_
    apply G.seq
    refine G.rg tab_ok (kof_nil _) (hk := ?_)
    refine G.fin tab_ok (hr := ?_)
    obtain rfl : j = min bs.length 600 := by omega
    rfl
def r_lawFresh (xs0 : List A) (rr : A) : Prop := ∃ (bs : List Int) (c : Int), (BW bs) ∧ (bs.length < 1099511627776) ∧ (0 ≤ c) ∧ (c ≤ 1000000) ∧ xs0 = [.row false 1 (bs.map bv), .int .i64 c] ∧ rr = .row true 1 ((mkFresh bs c).map bv)
noncomputable def q_lawFresh : List A → Option A := kgr r_lawFresh
theorem k_lawFresh : KOk Try.prog (23, q_lawFresh) := kgr_ok (enters_of Try.func23 rfl rfl) (by rintro xs0 rr ⟨bs, c, hc1, hc2, hc3, hc4, rfl, rfl⟩; exact lawFresh_ac bs c hc1 hc2 hc3 hc4)
theorem e_lawFresh : ∀ (bs : List Int) (c : Int), (BW bs) → (bs.length < 1099511627776) → (0 ≤ c) → (c ≤ 1000000) → q_lawFresh [.row false 1 (bs.map bv), .int .i64 c] = some (.row true 1 ((mkFresh bs c).map bv)) := by
  intro bs c hc1 hc2 hc3 hc4
  refine kgr_eq (fun xs0 rr r2 h h2 => ?_) ⟨bs, c, hc1, hc2, hc3, hc4, rfl, rfl⟩
  obtain ⟨bs1, c1, _, _, _, _, e1, rfl⟩ := h; obtain ⟨bs2, c2, _, _, _, _, e2, rfl⟩ := h2
  rw [e1] at e2
  simp only [List.cons.injEq, A.int.injEq, A.row.injEq, bv_inj, true_and, and_true] at e2
  simp [e2]
end Go.Proofs.Ytimgfinlbhodhaa.Ab
