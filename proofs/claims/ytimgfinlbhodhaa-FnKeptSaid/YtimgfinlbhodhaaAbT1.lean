/- Walks of functions. -/
import Derived.Test.YtimgfinlbhodhaaAbTok
namespace Go.Proofs.Ytimgfinlbhodhaa.Ab
open Go
set_option linter.unusedVariables false
set_option linter.unusedSimpArgs false
set_option maxHeartbeats 4000000
theorem lawAt_ac (bs : List Int) (k : Int) (hc1 : BW bs) (hc2 : bs.length ≤ 1099511627776) (hc3 : 0 ≤ k) (hc4 : k ≤ 1000000000) : AC Try.prog 15 [.row false 1 (bs.map bv), .int .i64 k] (.int .i64 (atO bs k)) := by
 skip
 refine AC.of tab_ok Try.func15 rfl (Nat.le_of_ble_eq_true rfl) fun w0 S0 => ?_
 change G _ _ ⟨[(0, .row false 1 (bs.map bv)), (1, .int .i64 k)], [], 21⟩
 apply G.seq
 refine G.rg tab_ok (kof_nil _) (hk := ?_)
 apply G.seq
 apply G.seq
 refine G.rg tab_ok (kof_nil _) (hk := ?_)
 refine G.iff (h1 := fun h1 => ?_) (h2 := fun h1 => ?_)
 ·try simp only [zqz] at h1
  apply G.seq
  have hk : k.toNat < bs.length := by omega
  have hby := hc1.ok _ (List.getElem_mem hk)
  have hbe : bs.getD k.toNat default = bs[k.toNat] := by rw [List.getD_eq_getElem?_getD, List.getElem?_eq_getElem hk]; rfl
  have hget : (List.map bv bs)[k.toNat]? = some [.int .u8 (bs.getD k.toNat default)] := by simp [hk, bv]
  have hwx : IntKind.i64.wrap bs[k.toNat] = bs[k.toNat] := wrap64 (by omega) (by omega)
  have h1' : k < (bs.length : Int) := h1
  rw [hbe] at hget
  refine G.rg tab_ok (kof_nil _) (hk := ?_)
  refine G.fin tab_ok (hr := ?_)
  simp only [oneOrTup, atO]
  rw [if_pos (by omega), hbe]
 ·try simp only [zqz] at h1
  apply G.skip
  apply G.seq
  have w1 : IntKind.i64.wrap (k * 37) = k * 37 := wrap64 (by omega) (by omega)
  have w2 : IntKind.i64.wrap ((bs.length : Int) * 11) = (bs.length : Int) * 11 := wrap64 (by omega) (by omega)
  have w3 : IntKind.i64.wrap (k * 37 + (bs.length : Int) * 11) = k * 37 + (bs.length : Int) * 11 := wrap64 (by omega) (by omega)
  refine G.rg tab_ok (kof_nil _) (hk := ?_)
  refine G.fin tab_ok (hr := ?_)
  simp only [oneOrTup, atO]
  rw [if_neg (by omega)]
def r_lawAt (xs0 : List A) (rr : A) : Prop := ∃ (bs : List Int) (k : Int), (BW bs) ∧ (bs.length ≤ 1099511627776) ∧ (0 ≤ k) ∧ (k ≤ 1000000000) ∧ xs0 = [.row false 1 (bs.map bv), .int .i64 k] ∧ rr = .int .i64 (atO bs k)
noncomputable def q_lawAt : List A → Option A := kgr r_lawAt
theorem k_lawAt : KOk Try.prog (15, q_lawAt) := kgr_ok (enters_of Try.func15 rfl rfl) (by rintro xs0 rr ⟨bs, k, hc1, hc2, hc3, hc4, rfl, rfl⟩; exact lawAt_ac bs k hc1 hc2 hc3 hc4)
theorem e_lawAt : ∀ (bs : List Int) (k : Int), (BW bs) → (bs.length ≤ 1099511627776) → (0 ≤ k) → (k ≤ 1000000000) → q_lawAt [.row false 1 (bs.map bv), .int .i64 k] = some (.int .i64 (atO bs k)) := by
 intro bs k hc1 hc2 hc3 hc4
 refine kgr_eq (fun xs0 rr r2 h h2 => ?_) ⟨bs, k, hc1, hc2, hc3, hc4, rfl, rfl⟩
 obtain ⟨bs1, k1, _, _, _, _, e1, rfl⟩ := h; obtain ⟨bs2, k2, _, _, _, _, e2, rfl⟩ := h2
 rw [e1] at e2
 simp only [List.cons.injEq, A.int.injEq, A.row.injEq, bv_inj, true_and, and_true] at e2
 simp [e2]
end Go.Proofs.Ytimgfinlbhodhaa.Ab
