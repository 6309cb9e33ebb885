/- Walks of functions. -/
import Derived.Test.YtdcjlemkegifjaaDoorAbNum
namespace Go.Proofs.YtdcjlemkegifjaaDoor.Ab
open Go
set_option linter.unusedVariables false
set_option linter.unusedSimpArgs false
set_option maxHeartbeats 4000000
theorem l1NumberP_ac (u : Nat) (hc1 : u ≤ 4611686018427387904) : AC Tryd.prog 14 [.int .i64 (u : Int)] (.str (sb (Lib.decDigits u))) := by
 have hw1 := dg_w1 (u := u) (by omega)
 have hw2 := dg_w2 u
 have hq := dg_q (u := u) (by omega)
 have hu0 : ¬ ((u : Int) < 0) := by omega
 have hdl := dd_len hc1
 refine AC.of tab_ok Tryd.func14 rfl (Nat.le_of_ble_eq_true rfl) fun w0 S0 => ?_
 change G _ _ ⟨[(0, .int .i64 (u : Int))], [], 31⟩
 apply G.seq
 refine G.rg tab_ok (kof_nil _) (hk := ?_)
 apply G.seq
 apply G.seq
 refine G.rg tab_ok (kof_nil _) (hk := ?_)
 refine G.iffF (h2 := ?_)
 apply G.skip
 apply G.seq
 refine G.rgN 5 tab_ok (kof_nil _) (hk := ?_)
 refine G.strOf (e := 5) (m := 0) (b := dgB u) tab_ok rfl rfl rfl rfl rfl rfl rfl rfl rfl (Nat.le_of_ble_eq_true rfl) ?_
 refine G.rgC tab_ok (kof_nil _) (hk := ?_)
 apply G.seq
 apply G.seq
 refine G.rg tab_ok (kof_nil _) (hk := ?_)
 apply G.block
 refine G.nm [0, 3] (h := ?_)
 refine G.loopX (fun x : Nat × List UInt8 => ⟨[(0, .int .i64 (x.1 : Nat)), (3, .str (sb x.2))], [], 31⟩) (fun x => x.1 ≤ 4611686018427387904 ∧ numA x.1 x.2 = Lib.decDigits u) (fun x => x.1) ((u / 10, [dgB u])) (⟨by simp only; omega, numA_start u⟩) (by simp) ?_
 intro x hx J hJ
 obtain ⟨m, acc⟩ := x
 simp only at hx ⊢
 obtain ⟨hm, hacc⟩ := hx
 have hal := numA_len m acc
 rw [hacc] at hal
 have hsum : strFits 1 acc.length = true := strFits_of (by omega)
 clear hw1 hw2 hq
 have hw1 := dg_w1 (u := m) (by omega)
 have hw2 := dg_w2 m
 have hq := dg_q (u := m) (by omega)
 apply G.seq
 apply G.seq
 refine G.rg tab_ok (kof_nil _) (hk := ?_)
 refine G.iff (h1 := fun h2 => ?_) (h2 := fun h2 => ?_)
 ·try simp only [zqz] at h2
  apply G.skip
  apply G.seq
  apply G.block
  refine G.rgN 5 tab_ok (kof_nil _) (hk := ?_)
  refine G.strOf (e := 5) (m := 0) (b := dgB m) tab_ok rfl rfl rfl rfl rfl rfl rfl rfl rfl (Nat.le_of_ble_eq_true rfl) ?_
  refine G.rgC tab_ok (kof_nil _) (hk := ?_)
  apply G.blk
  refine G.rg tab_ok (kof_nil _) (hk := ?_)
  refine G.nm [0, 3] (h := ?_)
  exact G.upto (hJ (m / 10, dgB m :: acc) ⟨by simp only; omega, by simp only; rw [numA_step (by omega), hacc]⟩ (by simp only; omega)) (by simp)
 ·try simp only [zqz] at h2
  refine G.exit rfl ?_
  apply G.seq
  refine G.rg tab_ok (kof_nil _) (hk := ?_)
  obtain rfl : m = 0 := by omega
  rw [numA_zero] at hacc
  subst hacc
  refine G.fin tab_ok (hr := ?_)
  rfl
def r_l1NumberP (xs0 : List A) (rr : A) : Prop := ∃ (u : Nat), (u ≤ 4611686018427387904) ∧ xs0 = [.int .i64 (u : Int)] ∧ rr = .str (sb (Lib.decDigits u))
noncomputable def q_l1NumberP : List A → Option A := kgr r_l1NumberP
theorem k_l1NumberP : KOk Tryd.prog (14, q_l1NumberP) := kgr_ok (enters_of Tryd.func14 rfl rfl) (by rintro xs0 rr ⟨u, hc1, rfl, rfl⟩; exact l1NumberP_ac u hc1)
theorem e_l1NumberP : ∀ (u : Nat), (u ≤ 4611686018427387904) → q_l1NumberP [.int .i64 (u : Int)] = some (.str (sb (Lib.decDigits u))) := by
 intro u hc1
 refine kgr_eq (fun xs0 rr r2 h h2 => ?_) ⟨u, hc1, rfl, rfl⟩
 obtain ⟨u1, _, e1, rfl⟩ := h; obtain ⟨u2, _, e2, rfl⟩ := h2
 rw [e1] at e2
 simp only [List.cons.injEq, A.int.injEq, true_and, and_true, Int.natCast_inj] at e2
 subst e2
 rfl
theorem ok_l1NumberN : Kn.ok Tryd.prog (kof [(14, q_l1NumberP)]) := kof_cons k_l1NumberP ((kof_nil _))
theorem l1NumberN_ac (u : Nat) (hc1 : 0 < u) (hc2 : u ≤ 4611686018427387904) : AC Tryd.prog 14 [.int .i64 (-(u : Int))] (.str (sb (45 :: Lib.decDigits u))) := by
 have e_l1NumberP := e_l1NumberP
 have hu0 : (-(u : Int) < 0) := by omega
 have hdl := dd_len hc2
 have hneg : IntKind.i64.wrap (0 - -(u : Int)) = (u : Int) := by rw [wrap64 (by omega) (by omega)]; omega
 have hsum : strFits 1 (Lib.decDigits u).length = true := strFits_of (by omega)
 refine AC.of tab_ok Tryd.func14 rfl (Nat.le_of_ble_eq_true rfl) fun w0 S0 => ?_
 change G _ _ ⟨[(0, .int .i64 (-(u : Int)))], [], 31⟩
 apply G.seq
 refine G.rg tab_ok ok_l1NumberN (hk := ?_)
 apply G.seq
 apply G.seq
 refine G.rg tab_ok ok_l1NumberN (hk := ?_)
 refine G.iffT (h1 := ?_)
 apply G.seq
 refine G.rg tab_ok ok_l1NumberN (hk := ?_)
 refine G.fin tab_ok (hr := ?_)
 rfl
theorem l1Number_ac (n : Int) (hc1 : -4611686018427387904 ≤ n) (hc2 : n ≤ 4611686018427387904) : AC Tryd.prog 14 [.int .i64 n] (.str (sb (Lib.itoa n))) := by
 by_cases hneg : n < 0
 ·obtain ⟨u, rfl⟩ : ∃ u : Nat, n = -(u : Int) := ⟨n.natAbs, by omega⟩
  rw [Lib.itoa_neg u (by omega)]
  exact l1NumberN_ac u (by omega) (by omega)
 ·obtain ⟨u, rfl⟩ : ∃ u : Nat, n = u := ⟨n.toNat, by omega⟩
  rw [Lib.itoa_nonneg]
  exact l1NumberP_ac u (by omega)
def r_l1Number (xs0 : List A) (rr : A) : Prop := ∃ (n : Int), (-4611686018427387904 ≤ n) ∧ (n ≤ 4611686018427387904) ∧ xs0 = [.int .i64 n] ∧ rr = .str (sb (Lib.itoa n))
noncomputable def q_l1Number : List A → Option A := kgr r_l1Number
theorem k_l1Number : KOk Tryd.prog (14, q_l1Number) := kgr_ok (enters_of Tryd.func14 rfl rfl) (by rintro xs0 rr ⟨n, hc1, hc2, rfl, rfl⟩; exact l1Number_ac n hc1 hc2)
theorem e_l1Number : ∀ (n : Int), (-4611686018427387904 ≤ n) → (n ≤ 4611686018427387904) → q_l1Number [.int .i64 n] = some (.str (sb (Lib.itoa n))) := by
 intro n hc1 hc2
 refine kgr_eq (fun xs0 rr r2 h h2 => ?_) ⟨n, hc1, hc2, rfl, rfl⟩
 obtain ⟨n1, _, _, e1, rfl⟩ := h; obtain ⟨n2, _, _, e2, rfl⟩ := h2
 rw [e1] at e2
 simp only [List.cons.injEq, A.int.injEq, true_and, and_true] at e2
 subst e2
 rfl
end Go.Proofs.YtdcjlemkegifjaaDoor.Ab
