/- Walks of functions of the program: what each answers, for all arguments that meet its conditions. -/
import Derived.Test.YtimgfinlbhodhaaAbReach
import Derived.Test.YtimgfinlbhodhaaAbStrAt
import Derived.Test.YtimgfinlbhodhaaFwB
import Derived.Test.YtimgfinlbhodhaaFwGa
namespace Go.Proofs.Ytimgfinlbhodhaa.Ab
open Go
set_option linter.unusedVariables false
set_option linter.unusedSimpArgs false
set_option maxHeartbeats 4000000
theorem lenBits64_ac (n : Nat) (hc1 : n ≤ 12) : AC Try.prog 204 [.int .u64 (n : Int)] (.any) := by
  have hw8 : IntKind.u8.wrap (n : Int) = (n : Int) := by simp [IntKind.wrap, IntKind.bits, IntKind.signed]; omega
  have h1a : ¬ ((n : Int) ≥ 4294967296) := by omega
  have h1b : ¬ ((n : Int) ≥ 65536) := by omega
  have h1c : ¬ ((n : Int) ≥ 256) := by omega
  refine AC.of tab_ok Try.func204 rfl (Nat.le_of_ble_eq_true rfl) fun w0 S0 => ?_
  change G _ _ ⟨[(0, .int .u64 (n : Int))], [], 25⟩
  apply G.seq
  refine G.rg tab_ok (kof_nil _) (hk := ?_)
  apply G.seq
  apply G.seq
  refine G.rg tab_ok (kof_nil _) (hk := ?_)
  refine G.iffF (h2 := ?_)
  apply G.skip
  apply G.seq
  apply G.seq
  refine G.rg tab_ok (kof_nil _) (hk := ?_)
  refine G.iffF (h2 := ?_)
  apply G.skip
  apply G.seq
  apply G.seq
  refine G.rg tab_ok (kof_nil _) (hk := ?_)
  refine G.iffF (h2 := ?_)
  apply G.skip
  apply G.seq
  refine G.rgN 3 tab_ok (kof_nil _) (hk := ?_)
  refine G.strAt (n := (n : Int)) tab_ok rfl rfl rfl rfl rfl (by omega) (by decide +kernel) (by omega) rfl (by show 22 < 25; omega) (fun b => ?_)
  have hb2 : b.toNat ≤ 255 := by have := b.toNat_lt; omega
  have hw9 : IntKind.i64.wrap (b.toNat : Int) = (b.toNat : Int) := wrap64 (by omega) (by omega)
  have hw10 : IntKind.i64.wrap (0 + (b.toNat : Int)) = (b.toNat : Int) := by rw [Int.zero_add]; exact hw9
  refine G.rgC tab_ok (kof_nil _) (hk := ?_)
  refine G.fg [] (hk := ?_)
  refine G.fin tab_ok (hr := ?_)
  rfl
def r_lenBits64 (xs0 : List A) (rr : A) : Prop := ∃ (n : Nat), (n ≤ 12) ∧ xs0 = [.int .u64 (n : Int)] ∧ rr = .any
noncomputable def q_lenBits64 : List A → Option A := kgr r_lenBits64
theorem k_lenBits64 : KOk Try.prog (204, q_lenBits64) := kgr_ok (enters_of Try.func204 rfl rfl) (by rintro xs0 rr ⟨n, hc1, rfl, rfl⟩; exact lenBits64_ac n hc1)
theorem e_lenBits64 : ∀ (n : Nat), (n ≤ 12) → q_lenBits64 [.int .u64 (n : Int)] = some (.any) := by
  intro n hc1
  refine kgr_eq (fun xs0 rr r2 h h2 => ?_) ⟨n, hc1, rfl, rfl⟩
  obtain ⟨n1, _, e1, rfl⟩ := h; obtain ⟨n2, _, e2, rfl⟩ := h2
  rw [e1] at e2
  skip
theorem ok_lenBits : Kn.ok Try.prog (kof [(204, q_lenBits64)]) := kof_cons k_lenBits64 ((kof_nil _))
theorem lenBits_ac (n : Nat) (hc1 : n ≤ 12) : AC Try.prog 178 [.int .u64 (n : Int)] (.any) := by
  have e_lenBits64 := e_lenBits64
  refine AC.of tab_ok Try.func178 rfl (Nat.le_of_ble_eq_true rfl) fun w0 S0 => ?_
  change G _ _ ⟨[(0, .int .u64 (n : Int))], [], 8⟩
  apply G.seq
  refine G.rg tab_ok ok_lenBits (hk := ?_)
  apply G.seq
  refine G.iffF (h2 := ?_)
  apply G.skip
  apply G.seq
  refine G.rg tab_ok ok_lenBits (hk := ?_)
  refine G.fin tab_ok (hr := ?_)
  rfl
def r_lenBits (xs0 : List A) (rr : A) : Prop := ∃ (n : Nat), (n ≤ 12) ∧ xs0 = [.int .u64 (n : Int)] ∧ rr = .any
noncomputable def q_lenBits : List A → Option A := kgr r_lenBits
theorem k_lenBits : KOk Try.prog (178, q_lenBits) := kgr_ok (enters_of Try.func178 rfl rfl) (by rintro xs0 rr ⟨n, hc1, rfl, rfl⟩; exact lenBits_ac n hc1)
theorem e_lenBits : ∀ (n : Nat), (n ≤ 12) → q_lenBits [.int .u64 (n : Int)] = some (.any) := by
  intro n hc1
  refine kgr_eq (fun xs0 rr r2 h h2 => ?_) ⟨n, hc1, rfl, rfl⟩
  obtain ⟨n1, _, e1, rfl⟩ := h; obtain ⟨n2, _, e2, rfl⟩ := h2
  rw [e1] at e2
  skip
theorem isNaNI_ac (x : Int)  : AC Try.prog 217 [.int .i64 x] (.bool false) := by
  refine AC.of tab_ok Try.func217 rfl (Nat.le_of_ble_eq_true rfl) fun w0 S0 => ?_
  change G _ _ ⟨[(0, .int .i64 x)], [], 6⟩
  apply G.seq
  refine G.rg tab_ok (kof_nil _) (hk := ?_)
  apply G.seq
  refine G.rg tab_ok (kof_nil _) (hk := ?_)
  refine G.fin tab_ok (hr := ?_)
  simp only [oneOrTup, beq_self_eq_true, Bool.not_true]
def r_isNaNI (xs0 : List A) (rr : A) : Prop := ∃ (x : Int), xs0 = [.int .i64 x] ∧ rr = .bool false
noncomputable def q_isNaNI : List A → Option A := kgr r_isNaNI
theorem k_isNaNI : KOk Try.prog (217, q_isNaNI) := kgr_ok (enters_of Try.func217 rfl rfl) (by rintro xs0 rr ⟨x, rfl, rfl⟩; exact isNaNI_ac x)
theorem e_isNaNI : ∀ (x : Int), q_isNaNI [.int .i64 x] = some (.bool false) := by
  intro x
  refine kgr_eq (fun xs0 rr r2 h h2 => ?_) ⟨x, rfl, rfl⟩
  obtain ⟨x1, e1, rfl⟩ := h; obtain ⟨x2, e2, rfl⟩ := h2
  rw [e1] at e2
  skip
theorem ok_lessI : Kn.ok Try.prog (kof [(217, q_isNaNI)]) := kof_cons k_isNaNI ((kof_nil _))
theorem lessI_ac (x : Int) (y : Int)  : AC Try.prog 200 [.int .i64 x, .int .i64 y] (.bool (decide (x < y))) := by
  have e_isNaNI := e_isNaNI
  have hft : (false == true) = false := rfl
  have htf : (true == false) = false := rfl
  refine AC.of tab_ok Try.func200 rfl (Nat.le_of_ble_eq_true rfl) fun w0 S0 => ?_
  change G _ _ ⟨[(0, .int .i64 x), (1, .int .i64 y)], [], 17⟩
  apply G.seq
  refine G.rg tab_ok ok_lessI (hk := ?_)
  apply G.seq
  refine G.rg tab_ok ok_lessI (hk := ?_)
  refine G.fin tab_ok (hr := ?_)
  rfl
def r_lessI (xs0 : List A) (rr : A) : Prop := ∃ (x : Int) (y : Int), xs0 = [.int .i64 x, .int .i64 y] ∧ rr = .bool (decide (x < y))
noncomputable def q_lessI : List A → Option A := kgr r_lessI
theorem k_lessI : KOk Try.prog (200, q_lessI) := kgr_ok (enters_of Try.func200 rfl rfl) (by rintro xs0 rr ⟨x, y, rfl, rfl⟩; exact lessI_ac x y)
theorem e_lessI : ∀ (x : Int) (y : Int), q_lessI [.int .i64 x, .int .i64 y] = some (.bool (decide (x < y))) := by
  intro x y
  refine kgr_eq (fun xs0 rr r2 h h2 => ?_) ⟨x, y, rfl, rfl⟩
  obtain ⟨x1, y1, e1, rfl⟩ := h; obtain ⟨x2, y2, e2, rfl⟩ := h2
  rw [e1] at e2
  simp only [List.cons.injEq, A.int.injEq, A.bool.injEq, A.agg.injEq, A.row.injEq, A.fn.injEq, A.rp.injEq, insv_inj, iv_inj, true_and, and_true] at e2
  simp [e2]
end Go.Proofs.Ytimgfinlbhodhaa.Ab
