/- Walks of functions of the program: what each answers, for all arguments that meet its conditions. -/
import Derived.Test.YtmijpnghcggdfaaAbP5
namespace Go.Proofs.Ytmijpnghcggdfaa.Ab
open Go
set_option linter.unusedVariables false
set_option linter.unusedSimpArgs false
set_option maxHeartbeats 4000000

theorem mul64_ac (n : Int) (hc1 : 0 ≤ n) (hc2 : n ≤ 400) : AC Try.prog 113 [.int .u64 1, .int .u64 n] (.tup [.int .u64 0, .int .u64 n]) := by
  have ha1 : (BitVec.ofInt IntKind.u64.bits 1 &&& BitVec.ofInt IntKind.u64.bits 4294967295).toNat = 1 := by decide
  have han : (BitVec.ofInt IntKind.u64.bits n &&& BitVec.ofInt IntKind.u64.bits 4294967295).toNat = n.toNat := by
    have h : ∀ m : Fin 401, (BitVec.ofInt IntKind.u64.bits (m.val : Int) &&& BitVec.ofInt IntKind.u64.bits 4294967295).toNat = m.val := by decide +kernel
    have := h ⟨n.toNat, by omega⟩
    simp only [Int.toNat_of_nonneg hc1] at this
    exact this
  have ha0 : (BitVec.ofInt IntKind.u64.bits 0 &&& BitVec.ofInt IntKind.u64.bits 4294967295).toNat = 0 := by decide
  have hw1 : IntKind.u64.wrap 1 = 1 := by decide
  have hw0 : IntKind.u64.wrap 0 = 0 := by decide
  have hwn : IntKind.u64.wrap n = n := by simp [IntKind.wrap, IntKind.bits, IntKind.signed]; omega
  have hwn2 : IntKind.u64.wrap ((n.toNat : Nat) : Int) = n := by rw [Int.toNat_of_nonneg hc1]; exact hwn
  have hw1' : IntKind.u64.wrap ((1 : Nat) : Int) = 1 := by decide
  have hw0' : IntKind.u64.wrap ((0 : Nat) : Int) = 0 := by decide
  have hm : min 32 IntKind.u64.bits = 32 := by decide
  have hs1 : Int.fdiv 1 (2 ^ 32) = 0 := by decide
  have hs0 : Int.fdiv 0 (2 ^ 32) = 0 := by decide
  have hsn : Int.fdiv n (2 ^ 32) = 0 := by rw [Int.fdiv_eq_ediv_of_nonneg _ (by decide)]; omega
  have e1 : (1 : Int) * n = n := by omega
  have e2 : (0 : Int) * n = 0 := by omega
  have e3 : (0 : Int) + n = n := by omega
  have e4 : n + 0 = n := by omega
  refine AC.of tab_ok Try.func113 rfl (Nat.le_of_ble_eq_true rfl) fun w0 S0 => ?_
  change G _ _ ⟨[(0, .int .u64 1), (1, .int .u64 n)], [], 51⟩
  apply G.seq
  refine G.rg tab_ok (kof_nil _) (hk := ?_)
  apply G.seq
  refine G.rg tab_ok (kof_nil _) (hk := ?_)
  apply G.seq
  refine G.rg tab_ok (kof_nil _) (hk := ?_)
  apply G.seq
  refine G.rg tab_ok (kof_nil _) (hk := ?_)
  apply G.seq
  refine G.rg tab_ok (kof_nil _) (hk := ?_)
  apply G.seq
  refine G.rg tab_ok (kof_nil _) (hk := ?_)
  apply G.seq
  refine G.rg tab_ok (kof_nil _) (hk := ?_)
  apply G.seq
  refine G.rg tab_ok (kof_nil _) (hk := ?_)
  apply G.seq
  refine G.rg tab_ok (kof_nil _) (hk := ?_)
  apply G.seq
  refine G.rg tab_ok (kof_nil _) (hk := ?_)
  apply G.seq
  refine G.rg tab_ok (kof_nil _) (hk := ?_)
  apply G.seq
  refine G.rg tab_ok (kof_nil _) (hk := ?_)
  refine G.fin tab_ok (hr := ?_)
  rfl
def r_mul64 (xs0 : List A) (rr : A) : Prop := ∃ (n : Int), (0 ≤ n) ∧ (n ≤ 400) ∧ xs0 = [.int .u64 1, .int .u64 n] ∧ rr = .tup [.int .u64 0, .int .u64 n]
noncomputable def q_mul64 : List A → Option A := kgr r_mul64
theorem k_mul64 : KOk Try.prog (113, q_mul64) := kgr_ok (enters_of Try.func113 rfl rfl) (by rintro xs0 rr ⟨n, hc1, hc2, rfl, rfl⟩; exact mul64_ac n hc1 hc2)
theorem e_mul64 : ∀ (n : Int), (0 ≤ n) → (n ≤ 400) → q_mul64 [.int .u64 1, .int .u64 n] = some (.tup [.int .u64 0, .int .u64 n]) := by
  intro n hc1 hc2
  refine kgr_eq (fun xs0 rr r2 h h2 => ?_) ⟨n, hc1, hc2, rfl, rfl⟩
  obtain ⟨n1, _, _, e1, rfl⟩ := h; obtain ⟨n2, _, _, e2, rfl⟩ := h2
  rw [e1] at e2
  simp only [List.cons.injEq, A.int.injEq, A.bool.injEq, A.agg.injEq, A.row.injEq, A.fn.injEq, A.rp.injEq, insv_inj, iv_inj, true_and, and_true] at e2
  simp [e2]

theorem ok_bitsMul : Kn.ok Try.prog (kof [(113, q_mul64)]) := kof_cons k_mul64 ((kof_nil _))
theorem bitsMul_ac (n : Int) (hc1 : 0 ≤ n) (hc2 : n ≤ 400) : AC Try.prog 94 [.int .u64 1, .int .u64 n] (.tup [.int .u64 0, .int .u64 n]) := by
  have e_mul64 := e_mul64
  refine AC.of tab_ok Try.func94 rfl (Nat.le_of_ble_eq_true rfl) fun w0 S0 => ?_
  change G _ _ ⟨[(0, .int .u64 1), (1, .int .u64 n)], [], 30⟩
  apply G.seq
  refine G.rg tab_ok ok_bitsMul (hk := ?_)
  apply G.seq
  refine G.iffF (h2 := ?_)
  apply G.skip
  apply G.seq
  refine G.rg tab_ok ok_bitsMul (hk := ?_)
  apply G.seq
  refine G.rg tab_ok ok_bitsMul (hk := ?_)
  refine G.fin tab_ok (hr := ?_)
  rfl
def r_bitsMul (xs0 : List A) (rr : A) : Prop := ∃ (n : Int), (0 ≤ n) ∧ (n ≤ 400) ∧ xs0 = [.int .u64 1, .int .u64 n] ∧ rr = .tup [.int .u64 0, .int .u64 n]
noncomputable def q_bitsMul : List A → Option A := kgr r_bitsMul
theorem k_bitsMul : KOk Try.prog (94, q_bitsMul) := kgr_ok (enters_of Try.func94 rfl rfl) (by rintro xs0 rr ⟨n, hc1, hc2, rfl, rfl⟩; exact bitsMul_ac n hc1 hc2)
theorem e_bitsMul : ∀ (n : Int), (0 ≤ n) → (n ≤ 400) → q_bitsMul [.int .u64 1, .int .u64 n] = some (.tup [.int .u64 0, .int .u64 n]) := by
  intro n hc1 hc2
  refine kgr_eq (fun xs0 rr r2 h h2 => ?_) ⟨n, hc1, hc2, rfl, rfl⟩
  obtain ⟨n1, _, _, e1, rfl⟩ := h; obtain ⟨n2, _, _, e2, rfl⟩ := h2
  rw [e1] at e2
  simp only [List.cons.injEq, A.int.injEq, A.bool.injEq, A.agg.injEq, A.row.injEq, A.fn.injEq, A.rp.injEq, insv_inj, iv_inj, true_and, and_true] at e2
  simp [e2]

end Go.Proofs.Ytmijpnghcggdfaa.Ab
