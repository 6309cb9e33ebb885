/- Walks of functions of the program: what each answers, for all arguments that meet its conditions. -/
import Derived.Test.YticgaflgbljhlaaFwGj
import Derived.Test.YticgaflgbljhlaaFwGe
import Derived.Test.YticgaflgbljhlaaFwGh
namespace Go.Proofs.Yticgaflgbljhlaa.Ab
open Go
set_option linter.unusedVariables false
set_option linter.unusedSimpArgs false
set_option maxHeartbeats 4000000
theorem ok_lawIsFixed : Kn.ok Try.prog (kof [(15, q_szNetwork), (45, q_szIntSS), (18, q_toNetwork), (47, q_toIntSS), (52, q_specIsFixed), (53, q_implIsFixed), (21, q_eqNetwork), (49, q_eqIntSS)]) := kof_cons k_szNetwork (kof_cons k_szIntSS (kof_cons k_toNetwork (kof_cons k_toIntSS (kof_cons k_specIsFixed (kof_cons k_implIsFixed (kof_cons k_eqNetwork (kof_cons k_eqIntSS ((kof_nil _)))))))))
theorem lawIsFixed_ac (ps : List PG) (ks : List LK) (hs : List (List Int)) (hc1 : NW ps) (hc2 : KW ks) (hc3 : ps.length < 3518437208781) (hc4 : ks.length < 2513169434844) (hc5 : hs.length < 5864062014805) (hc6 : LW hs) : AC Try.prog 12 [.agg [.row false 3 (ps.map pv), .row false 5 (ks.map kv)], .row false 1 (hs.map ivL)] (.bool true) := by
  have e_szNetwork := e_szNetwork
  have e_szIntSS := e_szIntSS
  have e_toNetwork := e_toNetwork
  have e_toIntSS := e_toIntSS
  have e_specIsFixed := e_specIsFixed
  have e_implIsFixed := e_implIsFixed
  have e_eqNetwork := e_eqNetwork
  have e_eqIntSS := e_eqIntSS
  have hivl := ivL_eq
  have hro := roLL_ovL
  have hpov := pureLL_ovL
  have hnov := noLoanLL_ovL
  have hsz : szNet 1048576 ps ks ≤ 1048576 := szNet_le (by omega)
  refine AC.of tab_ok Try.func12 rfl (Nat.le_of_ble_eq_true rfl) fun w0 S0 => ?_
  change G _ _ ⟨[(0, .agg [.row false 3 (ps.map pv), .row false 5 (ks.map kv)]), (1, .row false 1 (hs.map ivL))], [], 45⟩
  apply G.seq
  refine G.rg tab_ok ok_lawIsFixed (hk := ?_)
  apply G.seq
  refine G.rg tab_ok ok_lawIsFixed (hk := ?_)
  apply G.seq
  refine G.rg tab_ok ok_lawIsFixed (hk := ?_)
  apply G.seq
  apply G.seq
  refine G.rg tab_ok ok_lawIsFixed (hk := ?_)
  refine G.fg [1, 2, 5, 14, 35, 36, 37, 38] (hk := ?_)
  refine G.iff (h1 := fun h1 => ?_) (h2 := fun h1 => ?_)
  · try simp only [decide_eq_true_eq, decide_eq_false_iff_not, Bool.and_eq_true, Bool.and_eq_false_imp, Bool.or_eq_true, Bool.or_eq_false_iff, Bool.not_eq_true', Bool.not_eq_false', bne_iff_ne, beq_iff_eq, bne_eq_false_iff_eq, beq_eq_false_iff_ne, ne_eq, Int.ofNat_lt, Int.not_lt, Int.not_le, Int.ofNat_le, Nat.not_lt, Nat.not_le, gt_iff_lt, ge_iff_le] at h1
    apply G.seq
    refine G.rg tab_ok ok_lawIsFixed (hk := ?_)
    refine G.fin tab_ok (hr := ?_)
    rfl
  · try simp only [decide_eq_true_eq, decide_eq_false_iff_not, Bool.and_eq_true, Bool.and_eq_false_imp, Bool.or_eq_true, Bool.or_eq_false_iff, Bool.not_eq_true', Bool.not_eq_false', bne_iff_ne, beq_iff_eq, bne_eq_false_iff_eq, beq_eq_false_iff_ne, ne_eq, Int.ofNat_lt, Int.not_lt, Int.not_le, Int.ofNat_le, Nat.not_lt, Nat.not_le, gt_iff_lt, ge_iff_le] at h1
    apply G.skip
    apply G.seq
    refine G.rg tab_ok ok_lawIsFixed (hk := ?_)
    apply G.seq
    apply G.seq
    refine G.rg tab_ok ok_lawIsFixed (hk := ?_)
    refine G.iff (h1 := fun h2 => ?_) (h2 := fun h2 => ?_)
    · try simp only [decide_eq_true_eq, decide_eq_false_iff_not, Bool.and_eq_true, Bool.and_eq_false_imp, Bool.or_eq_true, Bool.or_eq_false_iff, Bool.not_eq_true', Bool.not_eq_false', bne_iff_ne, beq_iff_eq, bne_eq_false_iff_eq, beq_eq_false_iff_ne, ne_eq, Int.ofNat_lt, Int.not_lt, Int.not_le, Int.ofNat_le, Nat.not_lt, Nat.not_le, gt_iff_lt, ge_iff_le] at h2
      apply G.seq
      refine G.rg tab_ok ok_lawIsFixed (hk := ?_)
      refine G.fin tab_ok (hr := ?_)
      rfl
    · try simp only [decide_eq_true_eq, decide_eq_false_iff_not, Bool.and_eq_true, Bool.and_eq_false_imp, Bool.or_eq_true, Bool.or_eq_false_iff, Bool.not_eq_true', Bool.not_eq_false', bne_iff_ne, beq_iff_eq, bne_eq_false_iff_eq, beq_eq_false_iff_ne, ne_eq, Int.ofNat_lt, Int.not_lt, Int.not_le, Int.ofNat_le, Nat.not_lt, Nat.not_le, gt_iff_lt, ge_iff_le] at h2
      apply G.skip
      apply G.seq
      refine G.rg tab_ok ok_lawIsFixed (hk := ?_)
      apply G.seq
      refine G.rg tab_ok ok_lawIsFixed (hk := ?_)
      apply G.seq
      refine G.rg tab_ok ok_lawIsFixed (hk := ?_)
      apply G.seq
      refine G.rg tab_ok ok_lawIsFixed (hk := ?_)
      apply G.seq
      apply G.seq
      refine G.rg tab_ok ok_lawIsFixed (hk := ?_)
      refine G.fg [1, 2, 7, 8, 34, 35, 36, 37, 38] (hk := ?_)
      refine G.iffF (h2 := ?_)
      apply G.skip
      apply G.seq
      apply G.seq
      refine G.dr mixed tab_ok ok_lawIsFixed [0, 1, 2, 3, 4] (hk := ?_)
      refine G.iffF (h2 := ?_)
      apply G.skip
      apply G.seq
      apply G.seq
      refine G.rg tab_ok ok_lawIsFixed (hk := ?_)
      refine G.fg [44] (hk := ?_)
      refine G.iffF (h2 := ?_)
      apply G.skip
      apply G.seq
      refine G.rg tab_ok ok_lawIsFixed (hk := ?_)
      refine G.fin tab_ok (hr := ?_)
      rfl
end Go.Proofs.Yticgaflgbljhlaa.Ab
