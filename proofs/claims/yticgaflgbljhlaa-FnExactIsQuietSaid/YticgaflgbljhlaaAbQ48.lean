/- Walks of functions of the program: what each answers, for all arguments that meet its conditions. -/
import Derived.Test.YticgaflgbljhlaaFwGk
import Derived.Test.YticgaflgbljhlaaFwGe
import Derived.Test.YticgaflgbljhlaaFwGi
import Derived.Test.YticgaflgbljhlaaFwGh
import Derived.Test.YticgaflgbljhlaaFwGc
namespace Go.Proofs.Yticgaflgbljhlaa.Ab
open Go
set_option linter.unusedVariables false
set_option linter.unusedSimpArgs false
set_option maxHeartbeats 4000000
theorem ok_lawIsQuiet : Kn.ok Try.prog (kof [(15, q_szNetwork), (16, q_szState), (18, q_toNetwork), (19, q_toState), (40, q_specIsQuiet), (41, q_implIsQuiet), (21, q_eqNetwork), (22, q_eqState)]) := kof_cons k_szNetwork (kof_cons k_szState (kof_cons k_toNetwork (kof_cons k_toState (kof_cons k_specIsQuiet (kof_cons k_implIsQuiet (kof_cons k_eqNetwork (kof_cons k_eqState ((kof_nil _)))))))))
theorem lawIsQuiet_ac (ps : List PG) (ks : List LK) (xs : List AT) (qs : List (List Int)) (hs : List (List Int)) (t : Int) (hc1 : NW ps) (hc2 : KW ks) (hc3 : ps.length < 3518437208781) (hc4 : ks.length < 2513169434844) (hc5 : XW xs) (hc6 : xs.length < 4398046511104) (hc7 : qs.length < 5864062014805) (hc8 : LW qs) (hc9 : hs.length < 5864062014805) (hc10 : LW hs) : AC Try.prog 9 [.agg [.row false 3 (ps.map pv), .row false 5 (ks.map kv)], .agg [.row false 2 (xs.map av), .row false 1 (qs.map ivL), .row false 1 (hs.map ivL), .int .i64 t]] (.bool true) := by
  have e_szNetwork := e_szNetwork
  have e_szState := e_szState
  have e_toNetwork := e_toNetwork
  have e_toState := e_toState
  have e_specIsQuiet := e_specIsQuiet
  have e_implIsQuiet := e_implIsQuiet
  have e_eqNetwork := e_eqNetwork
  have e_eqState := e_eqState
  have hivl := ivL_eq
  have hro := roLL_ovL
  have hpov := pureLL_ovL
  have hnov := noLoanLL_ovL
  have hsz : szNet 1048576 ps ks ≤ 1048576 := szNet_le (by omega)
  refine AC.of tab_ok Try.func9 rfl (Nat.le_of_ble_eq_true rfl) fun w0 S0 => ?_
  change G _ _ ⟨[(0, .agg [.row false 3 (ps.map pv), .row false 5 (ks.map kv)]), (1, .agg [.row false 2 (xs.map av), .row false 1 (qs.map ivL), .row false 1 (hs.map ivL), .int .i64 t])], [], 45⟩
  apply G.seq
  refine G.rg tab_ok ok_lawIsQuiet (hk := ?_)
  apply G.seq
  refine G.rg tab_ok ok_lawIsQuiet (hk := ?_)
  apply G.seq
  refine G.rg tab_ok ok_lawIsQuiet (hk := ?_)
  apply G.seq
  apply G.seq
  refine G.rg tab_ok ok_lawIsQuiet (hk := ?_)
  refine G.fg [2, 3, 5, 14, 20, 21, 22, 23, 24, 35, 36, 37, 38, 40, 41, 42, 43] (hk := ?_)
  refine G.iff (h1 := fun h1 => ?_) (h2 := fun h1 => ?_)
  · try simp only [decide_eq_true_eq, decide_eq_false_iff_not, Bool.and_eq_true, Bool.and_eq_false_imp, Bool.or_eq_true, Bool.or_eq_false_iff, Bool.not_eq_true', Bool.not_eq_false', bne_iff_ne, beq_iff_eq, bne_eq_false_iff_eq, beq_eq_false_iff_ne, ne_eq, Int.ofNat_lt, Int.not_lt, Int.not_le, Int.ofNat_le, Nat.not_lt, Nat.not_le, gt_iff_lt, ge_iff_le] at h1
    apply G.seq
    refine G.rg tab_ok ok_lawIsQuiet (hk := ?_)
    refine G.fin tab_ok (hr := ?_)
    rfl
  · try simp only [decide_eq_true_eq, decide_eq_false_iff_not, Bool.and_eq_true, Bool.and_eq_false_imp, Bool.or_eq_true, Bool.or_eq_false_iff, Bool.not_eq_true', Bool.not_eq_false', bne_iff_ne, beq_iff_eq, bne_eq_false_iff_eq, beq_eq_false_iff_ne, ne_eq, Int.ofNat_lt, Int.not_lt, Int.not_le, Int.ofNat_le, Nat.not_lt, Nat.not_le, gt_iff_lt, ge_iff_le] at h1
    apply G.skip
    apply G.seq
    refine G.rg tab_ok ok_lawIsQuiet (hk := ?_)
    apply G.seq
    apply G.seq
    refine G.rg tab_ok ok_lawIsQuiet (hk := ?_)
    refine G.iff (h1 := fun h2 => ?_) (h2 := fun h2 => ?_)
    · try simp only [decide_eq_true_eq, decide_eq_false_iff_not, Bool.and_eq_true, Bool.and_eq_false_imp, Bool.or_eq_true, Bool.or_eq_false_iff, Bool.not_eq_true', Bool.not_eq_false', bne_iff_ne, beq_iff_eq, bne_eq_false_iff_eq, beq_eq_false_iff_ne, ne_eq, Int.ofNat_lt, Int.not_lt, Int.not_le, Int.ofNat_le, Nat.not_lt, Nat.not_le, gt_iff_lt, ge_iff_le] at h2
      apply G.seq
      refine G.rg tab_ok ok_lawIsQuiet (hk := ?_)
      refine G.fin tab_ok (hr := ?_)
      rfl
    · try simp only [decide_eq_true_eq, decide_eq_false_iff_not, Bool.and_eq_true, Bool.and_eq_false_imp, Bool.or_eq_true, Bool.or_eq_false_iff, Bool.not_eq_true', Bool.not_eq_false', bne_iff_ne, beq_iff_eq, bne_eq_false_iff_eq, beq_eq_false_iff_ne, ne_eq, Int.ofNat_lt, Int.not_lt, Int.not_le, Int.ofNat_le, Nat.not_lt, Nat.not_le, gt_iff_lt, ge_iff_le] at h2
      apply G.skip
      apply G.seq
      refine G.dr mixed tab_ok ok_lawIsQuiet [0, 2, 1, 3, 4, 5] (hk := ?_)
      apply G.seq
      refine G.rg tab_ok ok_lawIsQuiet (hk := ?_)
      apply G.seq
      refine G.rg tab_ok ok_lawIsQuiet (hk := ?_)
      apply G.seq
      refine G.rg tab_ok ok_lawIsQuiet (hk := ?_)
      apply G.seq
      apply G.seq
      refine G.rg tab_ok ok_lawIsQuiet (hk := ?_)
      refine G.fg [2, 3, 7, 8, 34, 35, 36, 37, 38, 40, 41, 42, 43] (hk := ?_)
      refine G.iffF (h2 := ?_)
      apply G.skip
      apply G.seq
      apply G.seq
      refine G.dr mixed tab_ok ok_lawIsQuiet [0, 1, 2, 3, 4] (hk := ?_)
      refine G.iffF (h2 := ?_)
      apply G.skip
      apply G.seq
      apply G.seq
      refine G.dr mixed tab_ok ok_lawIsQuiet [0, 1, 2, 3, 4] (hk := ?_)
      refine G.fg [44] (hk := ?_)
      refine G.iffF (h2 := ?_)
      apply G.skip
      apply G.seq
      refine G.rg tab_ok ok_lawIsQuiet (hk := ?_)
      refine G.fin tab_ok (hr := ?_)
      rfl
end Go.Proofs.Yticgaflgbljhlaa.Ab
