/- Walks of functions of the program: what each answers, for all arguments that meet its conditions. -/
import Derived.Test.YtahcojaklooliaaAbY7
import Derived.Test.YtahcojaklooliaaAbY6
import Derived.Test.YtahcojaklooliaaAbY5
import Derived.Test.YtahcojaklooliaaFwGe
import Derived.Test.YtahcojaklooliaaFwGh
import Derived.Test.YtahcojaklooliaaFwGc
namespace Go.Proofs.Ytahcojaklooliaa.Ab
open Go
set_option linter.unusedVariables false
set_option linter.unusedSimpArgs false
set_option maxHeartbeats 4000000
theorem ok_lawHasCycle : Kn.ok Try.prog (kof [(12, q_szNetwork), (14, q_toNetwork), (28, q_specHasCycle), (29, q_implHasCycle), (17, q_eqNetwork)]) := kof_cons k_szNetwork (kof_cons k_toNetwork (kof_cons k_specHasCycle (kof_cons k_implHasCycle (kof_cons k_eqNetwork ((kof_nil _))))))
theorem lawHasCycle_ac (ps : List PG) (ks : List LK) (hc1 : NW ps) (hc2 : KW ks) (hc3 : ps.length < 3518437208781) (hc4 : ks.length < 2513169434844) : AC Try.prog 6 [.agg [.row false 3 (ps.map pv), .row false 5 (ks.map kv)]] (.bool true) := by
  have e_szNetwork := e_szNetwork
  have e_toNetwork := e_toNetwork
  have e_specHasCycle := e_specHasCycle
  have e_implHasCycle := e_implHasCycle
  have e_eqNetwork := e_eqNetwork
  have hivl := ivL_eq
  have hro := roLL_ovL
  have hpov := pureLL_ovL
  have hnov := noLoanLL_ovL
  have hsz : szNet 1048576 ps ks ≤ 1048576 := szNet_le (by omega)
  refine AC.of tab_ok Try.func6 rfl (Nat.le_of_ble_eq_true rfl) fun w0 S0 => ?_
  change G _ _ ⟨[(0, .agg [.row false 3 (ps.map pv), .row false 5 (ks.map kv)])], [], 27⟩
  apply G.seq
  refine G.rg tab_ok ok_lawHasCycle (hk := ?_)
  apply G.seq
  refine G.rg tab_ok ok_lawHasCycle (hk := ?_)
  apply G.seq
  refine G.rg tab_ok ok_lawHasCycle (hk := ?_)
  apply G.seq
  apply G.seq
  refine G.rg tab_ok ok_lawHasCycle (hk := ?_)
  refine G.fg [1, 11, 22, 23, 24, 25] (hk := ?_)
  refine G.iff (h1 := fun h1 => ?_) (h2 := fun h1 => ?_)
  · try simp only [decide_eq_true_eq, decide_eq_false_iff_not, Bool.and_eq_true, Bool.and_eq_false_imp, Bool.or_eq_true, Bool.or_eq_false_iff, Bool.not_eq_true', Bool.not_eq_false', bne_iff_ne, beq_iff_eq, bne_eq_false_iff_eq, beq_eq_false_iff_ne, ne_eq, Int.ofNat_lt, Int.not_lt, Int.not_le, Int.ofNat_le, Nat.not_lt, Nat.not_le, gt_iff_lt, ge_iff_le] at h1
    apply G.seq
    refine G.rg tab_ok ok_lawHasCycle (hk := ?_)
    refine G.fin tab_ok (hr := ?_)
    rfl
  · try simp only [decide_eq_true_eq, decide_eq_false_iff_not, Bool.and_eq_true, Bool.and_eq_false_imp, Bool.or_eq_true, Bool.or_eq_false_iff, Bool.not_eq_true', Bool.not_eq_false', bne_iff_ne, beq_iff_eq, bne_eq_false_iff_eq, beq_eq_false_iff_ne, ne_eq, Int.ofNat_lt, Int.not_lt, Int.not_le, Int.ofNat_le, Nat.not_lt, Nat.not_le, gt_iff_lt, ge_iff_le] at h1
    apply G.skip
    apply G.seq
    have hszo := szNet_ok (n := 1048576) (ps := ps) (ks := ks) (by omega)
    have htp := tP_eq ps
    have htk0 := tK_eq ks
    have hps20 : ps.length ≤ 1048576 := by omega
    have hks20 : ks.length ≤ 1048576 := by omega
    have hpl : ps.length < 1099511627776 := by omega
    have hkl : ks.length < 1099511627776 := by omega
    have hbt : (1 : Int) + (tP ps : Int) + (tK ks : Int) ≤ 1048576000 := by omega
    have hn1 : ¬ ((1 : Int) + (tP ps : Int) + (tK ks : Int) < 0) := by omega
    clear hszo htp htk0
    refine G.rg tab_ok ok_lawHasCycle (hk := ?_)
    apply G.seq
    refine G.rg tab_ok ok_lawHasCycle (hk := ?_)
    apply G.seq
    refine G.rg tab_ok ok_lawHasCycle (hk := ?_)
    apply G.seq
    apply G.seq
    refine G.rg tab_ok ok_lawHasCycle (hk := ?_)
    refine G.fg [1, 5, 21, 22, 23, 24, 25] (hk := ?_)
    refine G.iffF (h2 := ?_)
    apply G.skip
    apply G.seq
    apply G.seq
    refine G.dr mixed tab_ok ok_lawHasCycle [0, 1, 2, 3, 4] (hk := ?_)
    refine G.iffF (h2 := ?_)
    apply G.skip
    apply G.seq
    refine G.rg tab_ok ok_lawHasCycle (hk := ?_)
    refine G.fin tab_ok (hr := ?_)
    rfl
end Go.Proofs.Ytahcojaklooliaa.Ab
