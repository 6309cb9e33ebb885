/- Walks of functions of the program: what each answers, for all arguments that meet its conditions. -/
import Derived.Test.YtimgfinlbhodhaaAbG4
import Derived.Test.YtimgfinlbhodhaaAbC4
namespace Go.Proofs.Ytimgfinlbhodhaa.Ab
open Go
set_option linter.unusedVariables false
set_option linter.unusedSimpArgs false
set_option maxHeartbeats 4000000
theorem ok_MakeNetwork : Kn.ok Try.prog (kof [(62, q_l01New)]) := kof_cons k_l01New ((kof_nil _))
theorem en_l3Network : Enters Try.prog 63 := enters_of Try.func63 rfl rfl
theorem MakeNetwork_ax (bs : List Int) (n : Int) (hc1 : BW bs) (hc2 : bs.length < 1099511627776) (hc3 : 0 ≤ n) (hc4 : n ≤ 8) : AX Try.prog 12 (X := List PG × List LK) [.row false 1 (bs.map bv), .int .i64 n] (fun x => netOk x.1 x.2 = true ∧ PO x.1 ∧ KS x.2 ∧ (x.1.length : Int) ≤ n) (fun x => .agg [.row false 3 (x.1.map pv), .row true 5 (x.2.map kv)]) := by
  have e_l01New := e_l01New
  have hmn : ¬ 8 < n := by omega
  have hmx : (if n > 0 then n else 0) = n := by split <;> omega
  have hcu : CuOk bs 0 := ⟨hc1, hc2, by omega, by omega⟩
  refine AX.of tab_ok Try.func12 rfl (Nat.le_of_ble_eq_true rfl) fun w0 S0 => ?_
  change G _ _ ⟨[(0, .row false 1 (bs.map bv)), (1, .int .i64 n)], [], 16⟩
  apply G.seq
  refine G.rg tab_ok ok_MakeNetwork (hk := ?_)
  apply G.seq
  refine G.rg tab_ok ok_MakeNetwork (hk := ?_)
  apply G.seq
  refine G.rgN 6 tab_ok (kof_nil _) (hk := ?_)
  refine G.cfX [1, 2] en_l01Int (int_mx bs 0 (newH bs (min bs.length 4000)) [2, 4, 10, 1000] hcu (by decide) (by decide)) (h := fun y hy => ?_)
  obtain ⟨a, ca, ga⟩ := y
  simp only at hy
  obtain ⟨hma, hcua⟩ := hy
  refine G.putX (h := ?_)
  have hab : 0 < a ∧ a ≤ 1000 := by
    simp only [List.mem_cons, List.not_mem_nil, or_false] at hma
    omega
  refine G.cfX [1] en_l3Network (l3Network_mx _ bs ca ga n a rfl hcua hc3 hc4 hab.1 hab.2) (h := fun y hy => ?_)
  obtain ⟨ps, ks, c2, g2⟩ := y
  simp only at hy
  obtain ⟨⟨hN, hpo, hks, hpn⟩, hcu2⟩ := hy
  refine G.putX (h := ?_)
  refine G.rgC tab_ok (kof_nil _) (hk := ?_)
  have htk : List.take ks.length (ks.map kv) = ks.map kv := List.take_of_length_le (by simp)
  have hpk := pureLL_kv ks
  refine G.finX (x := (ps, ks)) ⟨hN, hpo, hks, hpn⟩ tab_ok (hr := ?_)
  rfl
end Go.Proofs.Ytimgfinlbhodhaa.Ab
