/- Walks of functions of the program: what each answers, for all arguments that meet its conditions. -/
import Derived.Test.YtnjonjgjfcbgeaaAbN1
import Derived.Test.YtnjonjgjfcbgeaaAbN2
import Derived.Test.YtnjonjgjfcbgeaaAbK1
namespace Go.Proofs.Ytnjonjgjfcbgeaa.Ab
open Go
set_option linter.unusedVariables false
set_option linter.unusedSimpArgs false
set_option maxHeartbeats 4000000

theorem ok_lawLinkFrom : Kn.ok Try.prog (kof [(27, q_szNetwork), (29, q_toNetwork), (32, q_specLinkFrom), (33, q_implLinkFrom), (31, q_eqNetwork)]) := kof_cons k_szNetwork (kof_cons k_toNetwork (kof_cons k_specLinkFrom (kof_cons k_implLinkFrom (kof_cons k_eqNetwork ((kof_nil _))))))
theorem lawLinkFrom_ac (ps : List PG) (ks : List LK) (p : Int) (q : Int) (hc1 : NW ps) (hc2 : KW ks) (hc3 : ps.length < 3518437208781) (hc4 : ks.length < 2513169434844) : AC Try.prog 6 [.agg [.row false 3 (ps.map pv), .row false 5 (ks.map kv)], .int .i64 p, .int .i64 q] (.bool true) := by
  have e_szNetwork := e_szNetwork
  have e_toNetwork := e_toNetwork
  have e_specLinkFrom := e_specLinkFrom
  have e_implLinkFrom := e_implLinkFrom
  have e_eqNetwork := e_eqNetwork
  refine AC.of tab_ok Try.func6 rfl (Nat.le_of_ble_eq_true rfl) fun w0 S0 => ?_
  change G _ _ ⟨[(0, .agg [.row false 3 (ps.map pv), .row false 5 (ks.map kv)]), (1, .int .i64 p), (2, .int .i64 q)], [], 48⟩
  apply G.seq
  refine G.rg tab_ok ok_lawLinkFrom (hk := ?_)
  apply G.seq
  refine G.rg tab_ok ok_lawLinkFrom (hk := ?_)
  apply G.seq
  refine G.rg tab_ok ok_lawLinkFrom (hk := ?_)
  apply G.seq
  apply G.seq
  refine G.rg tab_ok ok_lawLinkFrom (hk := ?_)
  refine G.fg [1, 2, 3, 17, 43, 44, 45, 46] (hk := ?_)
  refine G.iff (h1 := fun h1 => ?_) (h2 := fun h1 => ?_)
  · try simp only [decide_eq_true_eq, decide_eq_false_iff_not, Bool.and_eq_true, Bool.and_eq_false_imp, Bool.or_eq_true, Bool.or_eq_false_iff, Bool.not_eq_true', Bool.not_eq_false', bne_iff_ne, beq_iff_eq, bne_eq_false_iff_eq, beq_eq_false_iff_ne, ne_eq, Int.ofNat_lt, Int.not_lt, Int.not_le, Int.ofNat_le, Nat.not_lt, Nat.not_le, gt_iff_lt, ge_iff_le] at h1
    apply G.seq
    refine G.rg tab_ok ok_lawLinkFrom (hk := ?_)
    refine G.fin tab_ok (hr := ?_)
    rfl
  · try simp only [decide_eq_true_eq, decide_eq_false_iff_not, Bool.and_eq_true, Bool.and_eq_false_imp, Bool.or_eq_true, Bool.or_eq_false_iff, Bool.not_eq_true', Bool.not_eq_false', bne_iff_ne, beq_iff_eq, bne_eq_false_iff_eq, beq_eq_false_iff_ne, ne_eq, Int.ofNat_lt, Int.not_lt, Int.not_le, Int.ofNat_le, Nat.not_lt, Nat.not_le, gt_iff_lt, ge_iff_le] at h1
    apply G.skip
    apply G.seq
    refine G.rg tab_ok ok_lawLinkFrom (hk := ?_)
    apply G.seq
    refine G.rg tab_ok ok_lawLinkFrom (hk := ?_)
    apply G.seq
    refine G.rg tab_ok ok_lawLinkFrom (hk := ?_)
    apply G.seq
    apply G.seq
    refine G.rg tab_ok ok_lawLinkFrom (hk := ?_)
    refine G.fg [3, 10, 42, 43, 44, 45, 46] (hk := ?_)
    refine G.iffF (h2 := ?_)
    apply G.skip
    apply G.seq
    apply G.seq
    refine G.dr mixed tab_ok ok_lawLinkFrom [0, 1, 2, 3, 4] (hk := ?_)
    refine G.iffF (h2 := ?_)
    apply G.skip
    apply G.seq
    refine G.rg tab_ok ok_lawLinkFrom (hk := ?_)
    refine G.fin tab_ok (hr := ?_)
    rfl

end Go.Proofs.Ytnjonjgjfcbgeaa.Ab
