/- Walks of functions of the program: what each answers, for all arguments that meet its conditions. -/
import Derived.Test.YtimgfinlbhodhaaAbC3
namespace Go.Proofs.Ytimgfinlbhodhaa.Ab
open Go
set_option linter.unusedVariables false
set_option linter.unusedSimpArgs false
set_option maxHeartbeats 4000000
theorem l01New_ac (bs : List Int) (hc1 : BW bs) (hc2 : bs.length < 1099511627776) : AC Try.prog 62 [.row false 1 (bs.map bv)] (.box [.row false 1 (bs.map bv), .int .i64 0, .int .i64 (newH bs (min bs.length 4000))]) := by
  have hand := andI_eq
  refine AC.of tab_ok Try.func62 rfl (Nat.le_of_ble_eq_true rfl) fun w0 S0 => ?_
  change G _ _ ⟨[(0, .row false 1 (bs.map bv))], [], 32⟩
  apply G.seq
  refine G.rg tab_ok (kof_nil _) (hk := ?_)
  apply G.seq
  refine G.rg tab_ok (kof_nil _) (hk := ?_)
  apply G.seq
  apply G.seq
  refine G.rg tab_ok (kof_nil _) (hk := ?_)
  apply G.block
  refine G.cn [0, 3, 4] [] (h := ?_)
  refine G.loopX (fun j : Nat => ⟨[(0, .row false 1 (bs.map bv)), (3, .int .i64 (newH bs j)), (4, .int .i64 j)], [], 32⟩) (fun j => j ≤ min bs.length 4000) (fun j => bs.length - j) (0) (Nat.zero_le _) (by simp [newH]) ?_
  intro j hj J hJ
  have hw : IntKind.i64.wrap ((j : Int) + 1) = (j : Int) + 1 := wrap64 (by omega) (by omega)
  apply G.seq
  apply G.seq
  refine G.rg tab_ok (kof_nil _) (hk := ?_)
  refine G.iff (h1 := fun h1 => ?_) (h2 := fun h1 => ?_)
  · try simp only [zz, bne_iff_ne, beq_iff_eq, bne_eq_false_iff_eq, beq_eq_false_iff_ne, ne_eq, gt_iff_lt, ge_iff_le] at h1
    apply G.skip
    apply G.seq
    apply G.block
    have hk : j < bs.length := by omega
    have hby := hc1.ok _ (List.getElem_mem hk)
    have hbe : bs.getD j default = bs[j] := by rw [List.getD_eq_getElem?_getD, List.getElem?_eq_getElem hk]; rfl
    have hget : (List.map bv bs)[j]? = some [.int .u8 bs[j]] := by simp [hk, bv]
    have hwx : IntKind.i64.wrap bs[j] = bs[j] := wrap64 (by omega) (by omega)
    refine G.rg tab_ok (kof_nil _) (hk := ?_)
    apply G.blk
    refine G.rg tab_ok (kof_nil _) (hk := ?_)
    refine G.cn [0, 3, 4] [] (h := ?_)
    exact G.upto (hJ (j + 1) (by omega) (by omega)) (by simp only [newH, hbe]; simp)
  · try simp only [zz, bne_iff_ne, beq_iff_eq, bne_eq_false_iff_eq, beq_eq_false_iff_ne, ne_eq, gt_iff_lt, ge_iff_le] at h1
    refine G.exit rfl ?_
    apply G.seq
    refine G.rg tab_ok (kof_nil _) (hk := ?_)
    refine G.fin tab_ok (hr := ?_)
    obtain rfl : j = min bs.length 4000 := by omega
    rfl
def r_l01New (xs0 : List A) (rr : A) : Prop := ∃ (bs : List Int), (BW bs) ∧ (bs.length < 1099511627776) ∧ xs0 = [.row false 1 (bs.map bv)] ∧ rr = .box [.row false 1 (bs.map bv), .int .i64 0, .int .i64 (newH bs (min bs.length 4000))]
noncomputable def q_l01New : List A → Option A := kgr r_l01New
theorem k_l01New : KOk Try.prog (62, q_l01New) := kgr_ok (enters_of Try.func62 rfl rfl) (by rintro xs0 rr ⟨bs, hc1, hc2, rfl, rfl⟩; exact l01New_ac bs hc1 hc2)
theorem e_l01New : ∀ (bs : List Int), (BW bs) → (bs.length < 1099511627776) → q_l01New [.row false 1 (bs.map bv)] = some (.box [.row false 1 (bs.map bv), .int .i64 0, .int .i64 (newH bs (min bs.length 4000))]) := by
  intro bs hc1 hc2
  refine kgr_eq (fun xs0 rr r2 h h2 => ?_) ⟨bs, hc1, hc2, rfl, rfl⟩
  obtain ⟨bs1, _, _, e1, rfl⟩ := h; obtain ⟨bs2, _, _, e2, rfl⟩ := h2
  rw [e1] at e2
  simp only [List.cons.injEq, A.int.injEq, A.row.injEq, bv_inj, true_and, and_true] at e2
  simp [e2]
theorem ok_makeStream : Kn.ok Try.prog (kof [(62, q_l01New)]) := kof_cons k_l01New ((kof_nil _))
theorem en_l3Tokens : Enters Try.prog 93 := enters_of Try.func93 rfl rfl
theorem makeStream_ac (bs : List Int) (n : Int) (hc1 : BW bs) (hc2 : bs.length < 1099511627776) : AC Try.prog 30 [.row false 1 (bs.map bv), .int .i64 n] (.row true 1 ((mkStream bs n).map iv)) := by
  have e_l01New := e_l01New
  have hmx : (if (if 100 < n then 100 else n) > 0 then if 100 < n then 100 else n else 0) = max 0 (min n 100) := by split <;> split <;> omega
  refine AC.of tab_ok Try.func30 rfl (Nat.le_of_ble_eq_true rfl) fun w0 S0 => ?_
  change G _ _ ⟨[(0, .row false 1 (bs.map bv)), (1, .int .i64 n)], [], 11⟩
  apply G.seq
  refine G.rg tab_ok ok_makeStream (hk := ?_)
  apply G.seq
  refine G.rgN 6 tab_ok ok_makeStream (hk := ?_)
  refine G.cf [0] en_l3Tokens (l3Tokens_mc _ bs 0 (newH bs (min bs.length 4000)) (max 0 (min n 100)) rfl ⟨hc1, hc2, by omega, by omega⟩ (by omega) (by omega)) (h := ?_)
  refine G.rgC tab_ok ok_makeStream (hk := ?_)
  refine G.fin tab_ok (hr := ?_)
  rfl
def r_makeStream (xs0 : List A) (rr : A) : Prop := ∃ (bs : List Int) (n : Int), (BW bs) ∧ (bs.length < 1099511627776) ∧ xs0 = [.row false 1 (bs.map bv), .int .i64 n] ∧ rr = .row true 1 ((mkStream bs n).map iv)
noncomputable def q_makeStream : List A → Option A := kgr r_makeStream
theorem k_makeStream : KOk Try.prog (30, q_makeStream) := kgr_ok (enters_of Try.func30 rfl rfl) (by rintro xs0 rr ⟨bs, n, hc1, hc2, rfl, rfl⟩; exact makeStream_ac bs n hc1 hc2)
theorem e_makeStream : ∀ (bs : List Int) (n : Int), (BW bs) → (bs.length < 1099511627776) → q_makeStream [.row false 1 (bs.map bv), .int .i64 n] = some (.row true 1 ((mkStream bs n).map iv)) := by
  intro bs n hc1 hc2
  refine kgr_eq (fun xs0 rr r2 h h2 => ?_) ⟨bs, n, hc1, hc2, rfl, rfl⟩
  obtain ⟨bs1, n1, _, _, e1, rfl⟩ := h; obtain ⟨bs2, n2, _, _, e2, rfl⟩ := h2
  rw [e1] at e2
  simp only [List.cons.injEq, A.int.injEq, A.row.injEq, bv_inj, true_and, and_true] at e2
  simp [e2]
end Go.Proofs.Ytimgfinlbhodhaa.Ab
