/- Walks of functions of the program: what each answers, for all arguments that meet its conditions. -/
import Derived.Test.YticgaflgbljhlaaAbNet1
import Derived.Test.YticgaflgbljhlaaAbNet
import Derived.Test.YticgaflgbljhlaaFwB
import Derived.Test.YticgaflgbljhlaaAbAuto2
namespace Go.Proofs.Yticgaflgbljhlaa.Ab
open Go
set_option linter.unusedVariables false
set_option linter.unusedSimpArgs false
set_option maxHeartbeats 4000000

theorem ok_l3Ends : Kn.ok Try.prog (kof [(66, q_l1In)]) := kof_cons k_l1In ((kof_nil _))
theorem l3Ends_ac (ps : List PG) (ks : List LK) (fr : Int) (ou : Int) (to : Int) (ip : Int) (tk : List Int) (hc1 : ps.length < 3518437208781) (hc2 : ps.all pgOk = true) : AC Try.prog 134 [.agg [.row false 3 (ps.map pv), .row false 5 (ks.map kv)], .agg [.int .i64 fr, .int .i64 ou, .int .i64 to, .int .i64 ip, .row false 1 (tk.map iv)]] (.bool (endsOk ps ⟨fr, ou, to, ip, tk⟩)) := by
  have e_l1In := e_l1In
  have hw0 : IntKind.i64.wrap ((ps.length : Int) - 1) = (ps.length : Int) - 1 := wrap64 (by omega) (by omega)
  have hw1 : IntKind.i64.wrap 0 = 0 := wrap64 (by omega) (by omega)
  refine AC.of tab_ok Try.func134 rfl (Nat.le_of_ble_eq_true rfl) fun w0 S0 => ?_
  change G _ _ ⟨[(0, .agg [.row false 3 (ps.map pv), .row false 5 (ks.map kv)]), (1, .agg [.int .i64 fr, .int .i64 ou, .int .i64 to, .int .i64 ip, .row false 1 (tk.map iv)])], [], 67⟩
  apply G.seq
  refine G.rg tab_ok ok_l3Ends (hk := ?_)
  apply G.seq
  apply G.seq
  refine G.rg tab_ok ok_l3Ends (hk := ?_)
  refine G.fg [2, 3, 34] (hk := ?_)
  refine G.iff (h1 := fun h1 => ?_) (h2 := fun h1 => ?_)
  · try simp only [decide_eq_true_eq, decide_eq_false_iff_not, Bool.and_eq_true, Bool.and_eq_false_imp, Bool.or_eq_true, Bool.or_eq_false_iff, Bool.not_eq_true', Bool.not_eq_false', bne_iff_ne, beq_iff_eq, bne_eq_false_iff_eq, beq_eq_false_iff_ne, ne_eq, Int.ofNat_lt, Int.not_lt, Int.not_le, Int.ofNat_le, Nat.not_lt, Nat.not_le, gt_iff_lt, ge_iff_le] at h1
    apply G.seq
    refine G.rg tab_ok ok_l3Ends (hk := ?_)
    refine G.fin tab_ok (hr := ?_)
    simp only [oneOrTup]
    congr 1
    symm
    rw [Bool.eq_false_iff]
    intro hh
    simp only [endsOk, inR, Bool.and_eq_true, decide_eq_true_eq, Bool.not_eq_true', Bool.and_eq_false_imp, beq_iff_eq, beq_eq_false_iff_ne] at hh
    omega
  · try simp only [decide_eq_true_eq, decide_eq_false_iff_not, Bool.and_eq_true, Bool.and_eq_false_imp, Bool.or_eq_true, Bool.or_eq_false_iff, Bool.not_eq_true', Bool.not_eq_false', bne_iff_ne, beq_iff_eq, bne_eq_false_iff_eq, beq_eq_false_iff_ne, ne_eq, Int.ofNat_lt, Int.not_lt, Int.not_le, Int.ofNat_le, Nat.not_lt, Nat.not_le, gt_iff_lt, ge_iff_le] at h1
    apply G.skip
    apply G.seq
    have hin : (-1 ≤ fr ∧ fr < (ps.length : Int)) ∧ (-1 ≤ to ∧ to < (ps.length : Int)) ∧ ¬ (fr = -1 ∧ to = -1) := by omega
    obtain ⟨⟨hf1, hf2⟩, ⟨ht1, ht2⟩, hn⟩ := hin
    refine G.rg tab_ok ok_l3Ends (hk := ?_)
    apply G.seq
    apply G.seq
    refine G.rg tab_ok ok_l3Ends (hk := ?_)
    refine G.iff (h1 := fun h2 => ?_) (h2 := fun h2 => ?_)
    · try simp only [decide_eq_true_eq, decide_eq_false_iff_not, Bool.and_eq_true, Bool.and_eq_false_imp, Bool.or_eq_true, Bool.or_eq_false_iff, Bool.not_eq_true', Bool.not_eq_false', bne_iff_ne, beq_iff_eq, bne_eq_false_iff_eq, beq_eq_false_iff_ne, ne_eq, Int.ofNat_lt, Int.not_lt, Int.not_le, Int.ofNat_le, Nat.not_lt, Nat.not_le, gt_iff_lt, ge_iff_le] at h2
      have hf3 : fr.toNat < ps.length := by omega
      obtain ⟨_, ho, _⟩ := pg_bd hc2 hf3
      have hwo : IntKind.i64.wrap ((ps.getD fr.toNat default).o - 1) = (ps.getD fr.toNat default).o - 1 := wrap64 (by omega) (by omega)
      refine G.rg tab_ok ok_l3Ends (hk := ?_)
      apply G.seq
      refine G.rg tab_ok ok_l3Ends (hk := ?_)
      apply G.seq
      apply G.seq
      refine G.rg tab_ok ok_l3Ends (hk := ?_)
      refine G.fg [2, 3, 5, 6, 47] (hk := ?_)
      refine G.iff (h1 := fun h3 => ?_) (h2 := fun h3 => ?_)
      · try simp only [decide_eq_true_eq, decide_eq_false_iff_not, Bool.and_eq_true, Bool.and_eq_false_imp, Bool.or_eq_true, Bool.or_eq_false_iff, Bool.not_eq_true', Bool.not_eq_false', bne_iff_ne, beq_iff_eq, bne_eq_false_iff_eq, beq_eq_false_iff_ne, ne_eq, Int.ofNat_lt, Int.not_lt, Int.not_le, Int.ofNat_le, Nat.not_lt, Nat.not_le, gt_iff_lt, ge_iff_le] at h3
        have ht3 : to.toNat < ps.length := by omega
        obtain ⟨hi, _, _⟩ := pg_bd hc2 ht3
        have hwi : IntKind.i64.wrap ((ps.getD to.toNat default).i - 1) = (ps.getD to.toNat default).i - 1 := wrap64 (by omega) (by omega)
        refine G.rg tab_ok ok_l3Ends (hk := ?_)
        apply G.seq
        refine G.rg tab_ok ok_l3Ends (hk := ?_)
        refine G.fin tab_ok (hr := ?_)
        simp only [oneOrTup]
        congr 1
        rw [Bool.eq_iff_iff]
        simp only [endsOk, inR, Bool.and_eq_true, decide_eq_true_eq, Bool.not_eq_true', Bool.and_eq_false_imp, beq_iff_eq, beq_eq_false_iff_ne]
        rw [if_pos h2]
        rw [if_pos h3]
        omega
      · try simp only [decide_eq_true_eq, decide_eq_false_iff_not, Bool.and_eq_true, Bool.and_eq_false_imp, Bool.or_eq_true, Bool.or_eq_false_iff, Bool.not_eq_true', Bool.not_eq_false', bne_iff_ne, beq_iff_eq, bne_eq_false_iff_eq, beq_eq_false_iff_ne, ne_eq, Int.ofNat_lt, Int.not_lt, Int.not_le, Int.ofNat_le, Nat.not_lt, Nat.not_le, gt_iff_lt, ge_iff_le] at h3
        apply G.skip
        apply G.seq
        refine G.rg tab_ok ok_l3Ends (hk := ?_)
        refine G.fin tab_ok (hr := ?_)
        simp only [oneOrTup]
        congr 1
        rw [Bool.eq_iff_iff]
        simp only [endsOk, inR, Bool.and_eq_true, decide_eq_true_eq, Bool.not_eq_true', Bool.and_eq_false_imp, beq_iff_eq, beq_eq_false_iff_ne]
        rw [if_pos h2]
        rw [if_neg (by omega)]
        omega
    · try simp only [decide_eq_true_eq, decide_eq_false_iff_not, Bool.and_eq_true, Bool.and_eq_false_imp, Bool.or_eq_true, Bool.or_eq_false_iff, Bool.not_eq_true', Bool.not_eq_false', bne_iff_ne, beq_iff_eq, bne_eq_false_iff_eq, beq_eq_false_iff_ne, ne_eq, Int.ofNat_lt, Int.not_lt, Int.not_le, Int.ofNat_le, Nat.not_lt, Nat.not_le, gt_iff_lt, ge_iff_le] at h2
      apply G.skip
      apply G.seq
      refine G.rg tab_ok ok_l3Ends (hk := ?_)
      apply G.seq
      apply G.seq
      refine G.rg tab_ok ok_l3Ends (hk := ?_)
      refine G.iff (h1 := fun h4 => ?_) (h2 := fun h4 => ?_)
      · try simp only [decide_eq_true_eq, decide_eq_false_iff_not, Bool.and_eq_true, Bool.and_eq_false_imp, Bool.or_eq_true, Bool.or_eq_false_iff, Bool.not_eq_true', Bool.not_eq_false', bne_iff_ne, beq_iff_eq, bne_eq_false_iff_eq, beq_eq_false_iff_ne, ne_eq, Int.ofNat_lt, Int.not_lt, Int.not_le, Int.ofNat_le, Nat.not_lt, Nat.not_le, gt_iff_lt, ge_iff_le] at h4
        have ht3 : to.toNat < ps.length := by omega
        obtain ⟨hi, _, _⟩ := pg_bd hc2 ht3
        have hwi : IntKind.i64.wrap ((ps.getD to.toNat default).i - 1) = (ps.getD to.toNat default).i - 1 := wrap64 (by omega) (by omega)
        refine G.rg tab_ok ok_l3Ends (hk := ?_)
        apply G.seq
        refine G.rg tab_ok ok_l3Ends (hk := ?_)
        refine G.fin tab_ok (hr := ?_)
        simp only [oneOrTup]
        congr 1
        rw [Bool.eq_iff_iff]
        simp only [endsOk, inR, Bool.and_eq_true, decide_eq_true_eq, Bool.not_eq_true', Bool.and_eq_false_imp, beq_iff_eq, beq_eq_false_iff_ne]
        rw [if_neg (by omega)]
        rw [if_pos h4]
        omega
      · try simp only [decide_eq_true_eq, decide_eq_false_iff_not, Bool.and_eq_true, Bool.and_eq_false_imp, Bool.or_eq_true, Bool.or_eq_false_iff, Bool.not_eq_true', Bool.not_eq_false', bne_iff_ne, beq_iff_eq, bne_eq_false_iff_eq, beq_eq_false_iff_ne, ne_eq, Int.ofNat_lt, Int.not_lt, Int.not_le, Int.ofNat_le, Nat.not_lt, Nat.not_le, gt_iff_lt, ge_iff_le] at h4
        apply G.skip
        apply G.seq
        refine G.rg tab_ok ok_l3Ends (hk := ?_)
        refine G.fin tab_ok (hr := ?_)
        simp only [oneOrTup]
        congr 1
        rw [Bool.eq_iff_iff]
        simp only [endsOk, inR, Bool.and_eq_true, decide_eq_true_eq, Bool.not_eq_true', Bool.and_eq_false_imp, beq_iff_eq, beq_eq_false_iff_ne]
        rw [if_neg (by omega)]
        rw [if_neg (by omega)]
        omega
def r_l3Ends (xs0 : List A) (rr : A) : Prop := ∃ (ps : List PG) (ks : List LK) (fr : Int) (ou : Int) (to : Int) (ip : Int) (tk : List Int), (ps.length < 3518437208781) ∧ (ps.all pgOk = true) ∧ xs0 = [.agg [.row false 3 (ps.map pv), .row false 5 (ks.map kv)], .agg [.int .i64 fr, .int .i64 ou, .int .i64 to, .int .i64 ip, .row false 1 (tk.map iv)]] ∧ rr = .bool (endsOk ps ⟨fr, ou, to, ip, tk⟩)
noncomputable def q_l3Ends : List A → Option A := kgr r_l3Ends
theorem k_l3Ends : KOk Try.prog (134, q_l3Ends) := kgr_ok (enters_of Try.func134 rfl rfl) (by rintro xs0 rr ⟨ps, ks, fr, ou, to, ip, tk, hc1, hc2, rfl, rfl⟩; exact l3Ends_ac ps ks fr ou to ip tk hc1 hc2)
theorem e_l3Ends : ∀ (ps : List PG) (ks : List LK) (fr : Int) (ou : Int) (to : Int) (ip : Int) (tk : List Int), (ps.length < 3518437208781) → (ps.all pgOk = true) → q_l3Ends [.agg [.row false 3 (ps.map pv), .row false 5 (ks.map kv)], .agg [.int .i64 fr, .int .i64 ou, .int .i64 to, .int .i64 ip, .row false 1 (tk.map iv)]] = some (.bool (endsOk ps ⟨fr, ou, to, ip, tk⟩)) := by
  intro ps ks fr ou to ip tk hc1 hc2
  refine kgr_eq (fun xs0 rr r2 h h2 => ?_) ⟨ps, ks, fr, ou, to, ip, tk, hc1, hc2, rfl, rfl⟩
  obtain ⟨ps1, ks1, fr1, ou1, to1, ip1, tk1, _, _, e1, rfl⟩ := h; obtain ⟨ps2, ks2, fr2, ou2, to2, ip2, tk2, _, _, e2, rfl⟩ := h2
  rw [e1] at e2
  simp only [List.cons.injEq, A.int.injEq, A.agg.injEq, A.row.injEq, pv_inj, kv_inj, iv_inj, true_and, and_true] at e2
  obtain ⟨⟨e3, e4⟩, e5, e6, e7, e8, e9⟩ := e2
  subst e3 e4 e5 e6 e7 e8 e9
  rfl

end Go.Proofs.Yticgaflgbljhlaa.Ab
