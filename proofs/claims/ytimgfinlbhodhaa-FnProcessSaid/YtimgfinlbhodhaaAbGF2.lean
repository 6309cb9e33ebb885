/- Walks of functions of the program: what each answers, for all arguments that meet its conditions. -/
import Derived.Test.YtimgfinlbhodhaaAbGF1
import Derived.Test.YtimgfinlbhodhaaAbC4
namespace Go.Proofs.Ytimgfinlbhodhaa.Ab
open Go
set_option linter.unusedVariables false
set_option linter.unusedSimpArgs false
set_option maxHeartbeats 4000000
theorem ok_MakeProgramF : Kn.ok Try.prog (kof [(62, q_l01New)]) := kof_cons k_l01New ((kof_nil _))
theorem en_l2ProgramF : Enters Try.prog 92 := enters_of Try.func92 rfl rfl
theorem MakeProgramF_ax (bs : List Int) (p : Int) (q : Int) (hc1 : BW bs) (hc2 : bs.length < 1099511627776) (hc3 : 1 ≤ p) (hc4 : p ≤ 3) (hc5 : 0 ≤ q) (hc6 : q ≤ 3) : AX Try.prog 29 (X := List I4) [.row false 1 (bs.map bv), .int .i64 p, .int .i64 q] (fun x => progOk p q x = true ∧ FwP x) (fun x => .agg [.int .i64 p, .int .i64 q, .row true 4 (x.map insv)]) := by
  have e_l01New := e_l01New
  have hm1 : ¬ 3 < p := by omega
  have hm2 : ¬ 3 < q := by omega
  have hmx1 : (if p > 1 then p else 1) = p := by split <;> omega
  have hmx2 : (if q > 0 then q else 0) = q := by split <;> omega
  have hcu : CuOk bs 0 := ⟨hc1, hc2, by omega, by omega⟩
  refine AX.of tab_ok Try.func29 rfl (Nat.le_of_ble_eq_true rfl) fun w0 S0 => ?_
  change G _ _ ⟨[(0, .row false 1 (bs.map bv)), (1, .int .i64 p), (2, .int .i64 q)], [], 16⟩
  apply G.seq
  refine G.rg tab_ok ok_MakeProgramF (hk := ?_)
  apply G.seq
  refine G.rgN 8 tab_ok ok_MakeProgramF (hk := ?_)
  refine G.cfX [1] en_l2ProgramF (l2ProgramF_mx _ bs 0 (newH bs (min bs.length 4000)) p q rfl hcu (by omega) (by omega) (by omega) (by omega)) (h := fun y hy => ?_)
  obtain ⟨PL, c2, g2⟩ := y
  simp only at hy
  obtain ⟨⟨hPo, hPf⟩, hcu2⟩ := hy
  refine G.putX (h := ?_)
  refine G.rgC tab_ok (kof_nil _) (hk := ?_)
  have htk : List.take PL.length (PL.map insv) = PL.map insv := List.take_of_length_le (by simp)
  have hpk := pureLL_insv PL
  refine G.finX (x := PL) ⟨hPo, hPf⟩ tab_ok (hr := ?_)
  rfl
end Go.Proofs.Ytimgfinlbhodhaa.Ab
