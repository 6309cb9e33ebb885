/- Walks of functions of the program: what each answers, for all arguments that meet its conditions. -/
import Derived.Test.YtmijpnghcggdfaaAbAuto2
namespace Go.Proofs.Ytmijpnghcggdfaa.Ab
open Go
set_option linter.unusedVariables false
set_option linter.unusedSimpArgs false
set_option maxHeartbeats 4000000

theorem sampleRead_ac (a : Int) (b : Int)  : AC Try.prog 59 [.int .i64 a, .int .i64 b] (.agg [.int .i64 1, .int .i64 a, .int .i64 b, .int .i64 0]) := by
  refine AC.of tab_ok Try.func59 rfl (Nat.le_of_ble_eq_true rfl) fun w0 S0 => ?_
  change G _ _ ⟨[(0, .int .i64 a), (1, .int .i64 b)], [], 8⟩
  apply G.seq
  refine G.rg tab_ok (kof_nil _) (hk := ?_)
  apply G.seq
  refine G.rg tab_ok (kof_nil _) (hk := ?_)
  refine G.fin tab_ok (hr := ?_)
  rfl
def r_sampleRead (xs0 : List A) (rr : A) : Prop := ∃ (a : Int) (b : Int), xs0 = [.int .i64 a, .int .i64 b] ∧ rr = .agg [.int .i64 1, .int .i64 a, .int .i64 b, .int .i64 0]
noncomputable def q_sampleRead : List A → Option A := kgr r_sampleRead
theorem k_sampleRead : KOk Try.prog (59, q_sampleRead) := kgr_ok (enters_of Try.func59 rfl rfl) (by rintro xs0 rr ⟨a, b, rfl, rfl⟩; exact sampleRead_ac a b)
theorem e_sampleRead : ∀ (a : Int) (b : Int), q_sampleRead [.int .i64 a, .int .i64 b] = some (.agg [.int .i64 1, .int .i64 a, .int .i64 b, .int .i64 0]) := by
  intro a b
  refine kgr_eq (fun xs0 rr r2 h h2 => ?_) ⟨a, b, rfl, rfl⟩
  obtain ⟨a1, b1, e1, rfl⟩ := h; obtain ⟨a2, b2, e2, rfl⟩ := h2
  rw [e1] at e2
  simp only [List.cons.injEq, A.int.injEq, A.bool.injEq, A.agg.injEq, A.row.injEq, A.fn.injEq, A.rp.injEq, insv_inj, iv_inj, true_and, and_true] at e2
  simp [e2]

theorem sampleWrite_ac (a : Int) (b : Int)  : AC Try.prog 60 [.int .i64 a, .int .i64 b] (.agg [.int .i64 2, .int .i64 a, .int .i64 b, .int .i64 0]) := by
  refine AC.of tab_ok Try.func60 rfl (Nat.le_of_ble_eq_true rfl) fun w0 S0 => ?_
  change G _ _ ⟨[(0, .int .i64 a), (1, .int .i64 b)], [], 8⟩
  apply G.seq
  refine G.rg tab_ok (kof_nil _) (hk := ?_)
  apply G.seq
  refine G.rg tab_ok (kof_nil _) (hk := ?_)
  refine G.fin tab_ok (hr := ?_)
  rfl
def r_sampleWrite (xs0 : List A) (rr : A) : Prop := ∃ (a : Int) (b : Int), xs0 = [.int .i64 a, .int .i64 b] ∧ rr = .agg [.int .i64 2, .int .i64 a, .int .i64 b, .int .i64 0]
noncomputable def q_sampleWrite : List A → Option A := kgr r_sampleWrite
theorem k_sampleWrite : KOk Try.prog (60, q_sampleWrite) := kgr_ok (enters_of Try.func60 rfl rfl) (by rintro xs0 rr ⟨a, b, rfl, rfl⟩; exact sampleWrite_ac a b)
theorem e_sampleWrite : ∀ (a : Int) (b : Int), q_sampleWrite [.int .i64 a, .int .i64 b] = some (.agg [.int .i64 2, .int .i64 a, .int .i64 b, .int .i64 0]) := by
  intro a b
  refine kgr_eq (fun xs0 rr r2 h h2 => ?_) ⟨a, b, rfl, rfl⟩
  obtain ⟨a1, b1, e1, rfl⟩ := h; obtain ⟨a2, b2, e2, rfl⟩ := h2
  rw [e1] at e2
  simp only [List.cons.injEq, A.int.injEq, A.bool.injEq, A.agg.injEq, A.row.injEq, A.fn.injEq, A.rp.injEq, insv_inj, iv_inj, true_and, and_true] at e2
  simp [e2]

theorem sampleMade_mc (h : Heap) (i : Int) (o : Int) (l : List I4) (hc1 : h = [some (3, [[.int .i64 0, .int .i64 0, .nils]]), some (4, l.map insv)]) (hc2 : l.length ≤ 24) : MC Try.prog 61 h [.int .i64 i, .int .i64 o, .sl 1 0 l.length] (.agg [.int .i64 i, .int .i64 o, .sl 4 0 (l.length + 1)]) ([some (3, [[.int .i64 0, .int .i64 0, .nils]]), none, some (3, [[.int .i64 i, .int .i64 o, .sl 4 0 (l.length + 1)]]), some (4, [[.int .i64 8, .int .i64 0, .int .i64 0, .int .i64 0]]), some (4, l.map insv ++ [[.int .i64 8, .int .i64 0, .int .i64 0, .int .i64 0]])]) := by
  subst hc1
  have hb3 : ((l.length + 1 : Nat) : Int) ≤ 4611686018427387904 := by omega
  have hb4 : (l.length + 1) * 32 ≤ 70368744177664 := by omega
  refine MC.of tab_ok Try.func61 rfl (Nat.le_of_ble_eq_true rfl) fun w0 S0 fs0 φ0 hφ0 hq0 => ?_
  change G _ _ ⟨[(0, .int .i64 i), (1, .int .i64 o), (2, .sl 1 0 l.length)], _, 14⟩
  apply G.seq
  refine G.rg tab_ok (kof_nil _) (hk := ?_)
  apply G.seq
  refine G.rg tab_ok (kof_nil _) (hk := ?_)
  refine G.finM (junk := []) tab_ok (hr := rfl) (hh := by rw [List.append_nil]) (hp := rfl) (hq := ?_) (hl := ?_)
  · simp only [hrefs, refLL_map, refL, refA, List.all_append, List.all_map]; simp [refL, refA, insv]
  · rw [hφ0]; exact Nat.le_of_ble_eq_true rfl

end Go.Proofs.Ytmijpnghcggdfaa.Ab
