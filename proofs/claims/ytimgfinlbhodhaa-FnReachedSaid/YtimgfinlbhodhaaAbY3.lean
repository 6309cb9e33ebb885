/- Walks of functions of the program: what each answers, for all arguments that meet its conditions. -/
import Derived.Test.YtimgfinlbhodhaaAbY2
namespace Go.Proofs.Ytimgfinlbhodhaa.Ab
open Go
set_option linter.unusedVariables false
set_option linter.unusedSimpArgs false
set_option maxHeartbeats 4000000
theorem en_insSort : Enters Try.prog 194 := enters_of Try.func194 rfl rfl
theorem pdq_mc (h : Heap) (l : List Int) (n : Nat) (hc1 : h = [some (1, l.map iv)]) (hc2 : n ≤ 12) (hc3 : n ≤ l.length) (hc4 : l.length ≤ n) : MC Try.prog 177 h [.sl 0 0 n, .int .i64 0, .int .i64 (n : Int), .any] (.tup []) ([some (1, (sortI l).map iv)]) := by
  subst hc1
  have hz1 : IntKind.i64.wrap ((n : Int) - 0) = (n : Int) := by rw [Int.sub_zero]; exact wrap64 (by omega) (by omega)
  have hn12 : (n : Int) ≤ 12 := by omega
  refine MC.of tab_ok Try.func177 rfl (Nat.le_of_ble_eq_true rfl) fun w0 S0 fs0 φ0 hφ0 hq0 => ?_
  change G _ _ ⟨[(0, .sl 0 0 n), (1, .int .i64 0), (2, .int .i64 (n : Int)), (3, .any)], _, 134⟩
  apply G.seq
  refine G.rg tab_ok (kof_nil _) (hk := ?_)
  apply G.seq
  refine G.rg tab_ok (kof_nil _) (hk := ?_)
  apply G.block
  refine G.fg [0, 1, 2] (hk := ?_)
  refine G.loopX (fun x : Nat => ⟨[(0, .sl 0 0 n), (1, .int .i64 0), (2, .int .i64 (n : Int))], [some (1, l.map iv)], 134⟩) (fun x => True) (fun x => x) (0) (trivial) (rfl) ?_
  intro x hx J hJ J hJ
  apply G.block
  apply G.seq
  refine G.rg tab_ok (kof_nil _) (hk := ?_)
  apply G.seq
  apply G.seq
  refine G.rg tab_ok (kof_nil _) (hk := ?_)
  refine G.iffT (h1 := ?_)
  apply G.seq
  refine G.rgN 3 tab_ok (kof_nil _) (hk := ?_)
  refine G.cf [0] en_insSort (insSort_mc _ l n rfl hc2 hc3 hc4) (h := ?_)
  refine G.rgC tab_ok (kof_nil _) (hk := ?_)
  refine G.finM (junk := []) tab_ok (hr := ?_) (hh := ?_) (hq := ?_) (hl := ?_)
  · rfl
  · rfl
  · show (refLL _ _ && true) = true
    rw [pureLL_ref (pureLL_iv _)]
    rfl
  · rw [hφ0]; exact Nat.le_refl _
theorem ok_sortInts : Kn.ok Try.prog (kof [(178, q_lenBits)]) := kof_cons k_lenBits ((kof_nil _))
theorem en_pdq : Enters Try.prog 177 := enters_of Try.func177 rfl rfl
theorem sortInts_mc (h : Heap) (l : List Int) (n : Nat) (hc1 : h = [some (1, l.map iv)]) (hc2 : n ≤ 12) (hc3 : n ≤ l.length) (hc4 : l.length ≤ n) : MC Try.prog 120 h [.sl 0 0 n] (.tup []) ([some (1, (sortI l).map iv)]) := by
  have e_lenBits := e_lenBits
  subst hc1
  have hwu : IntKind.u64.wrap (n : Int) = (n : Int) := by simp [IntKind.wrap, IntKind.bits, IntKind.signed]; omega
  refine MC.of tab_ok Try.func120 rfl (Nat.le_of_ble_eq_true rfl) fun w0 S0 fs0 φ0 hφ0 hq0 => ?_
  change G _ _ ⟨[(0, .sl 0 0 n)], _, 11⟩
  apply G.seq
  refine G.rg tab_ok ok_sortInts (hk := ?_)
  refine G.rgN 5 tab_ok ok_sortInts (hk := ?_)
  refine G.cf [0] en_pdq (pdq_mc _ l n rfl hc2 hc3 hc4) (h := ?_)
  refine G.rgC tab_ok ok_sortInts (hk := ?_)
  refine G.doneN (junk := []) (xs := []) tab_ok rfl rfl ?_ ?_ ?_ ?_ ?_
  · rfl
  · rfl
  · rfl
  · show (refLL _ _ && true) = true
    rw [pureLL_ref (pureLL_iv _)]
    rfl
  · rw [hφ0]; exact Nat.le_refl _
end Go.Proofs.Ytimgfinlbhodhaa.Ab
