/- Walks of functions of the program: what each answers, for all arguments that meet its conditions. -/
import Derived.Test.YtimgfinlbhodhaaAbC2
import Derived.Test.YtimgfinlbhodhaaFwGa
namespace Go.Proofs.Ytimgfinlbhodhaa.Ab
open Go
set_option linter.unusedVariables false
set_option linter.unusedSimpArgs false
set_option maxHeartbeats 4000000
theorem en_l1Some : Enters Try.prog 157 := enters_of Try.func157 rfl rfl
theorem l3Tokens_mc (h : Heap) (bs : List Int) (i : Int) (hh : Int) (m : Int) (hc1 : h = [some (3, [[.row false 1 (bs.map bv), .int .i64 (i), .int .i64 (hh)]])]) (hc2 : CuOk bs i) (hc3 : 0 ≤ m) (hc4 : m ≤ 255) : MC Try.prog 93 h [.ptr 0 0 0, .int .i64 m] (.sl 1 0 (tokS bs i hh m).1.length) ([some (3, [[.row false 1 (bs.map bv), .int .i64 ((tokS bs i hh m).2.1), .int .i64 ((tokS bs i hh m).2.2)]]), some (1, (tokS bs i hh m).1.map iv)]) := by
  subst hc1
  have hw : IntKind.i64.wrap (m + 1) = m + 1 := wrap64 (by omega) (by omega)
  have hk := bel_ok bs i hh (n := m + 1) (by omega)
  have hcu := bel_cu hc2 hh (m + 1)
  obtain ⟨i1, hi1⟩ : ∃ x, (bel bs i hh (m + 1)).2.1 = x := ⟨_, rfl⟩
  obtain ⟨h1', hh1⟩ : ∃ x, (bel bs i hh (m + 1)).2.2 = x := ⟨_, rfl⟩
  obtain ⟨K, hK⟩ : ∃ x, (bel bs i hh (m + 1)).1 = x := ⟨_, rfl⟩
  rw [hK] at hk
  rw [hi1] at hcu
  have hS : tokS bs i hh m = toksN bs i1 h1' K.toNat := by unfold tokS; rw [hi1, hh1, hK]
  have hk0 := hk.1
  have hk1 := hk.2
  clear hk
  refine MC.of tab_ok Try.func93 rfl (Nat.le_of_ble_eq_true rfl) fun w0 S0 fs0 φ0 hφ0 hq0 => ?_
  change G _ _ ⟨[(0, .ptr 0 0 0), (1, .int .i64 m)], _, 22⟩
  apply G.seq
  refine G.rg tab_ok (kof_nil _) (hk := ?_)
  apply G.seq
  refine G.rg tab_ok (kof_nil _) (hk := ?_)
  apply G.seq
  apply G.seq
  refine G.rgN 3 tab_ok (kof_nil _) (hk := ?_)
  refine G.cf [0] en_l01Below (l01Below_mc _ bs i hh (m + 1) rfl hc2 (by omega)) (h := ?_)
  refine G.rgC tab_ok (kof_nil _) (hk := ?_)
  apply G.block
  refine G.nmM [0, 5, 6] (hφ := fun m hm => first1 (show φ0.length = 1 from hφ0) hm rfl) (h := ?_)
  refine G.loopX (fun j : Nat => ⟨[(0, .ptr 0 0 0), (5, .sl 1 0 (toksN bs i1 h1' j).1.length), (6, .int .i64 (K - (j : Int)))], [some (3, [[.row false 1 (bs.map bv), .int .i64 ((toksN bs i1 h1' j).2.1), .int .i64 ((toksN bs i1 h1' j).2.2)]]), some (1, (toksN bs i1 h1' j).1.map iv)], 22⟩) (fun j => j ≤ K.toNat) (fun j => K.toNat - j) (0) (Nat.zero_le _) (by simp [toksN]) ?_
  intro j hj J hJ
  have hw2 : IntKind.i64.wrap (K - (j : Int) - 1) = K - (j : Int) - 1 := wrap64 (by omega) (by omega)
  have hlb : (toksN bs i1 h1' j).1.length ≤ 256 := by rw [toksN_len]; omega
  have hlt : List.take (toksN bs i1 h1' j).1.length ((toksN bs i1 h1' j).1.map iv) = (toksN bs i1 h1' j).1.map iv := List.take_of_length_le (by simp)
  apply G.seq
  apply G.seq
  refine G.rg tab_ok (kof_nil _) (hk := ?_)
  refine G.iff (h1 := fun h1 => ?_) (h2 := fun h1 => ?_)
  · try simp only [zz, bne_iff_ne, beq_iff_eq, bne_eq_false_iff_eq, beq_eq_false_iff_ne, ne_eq, gt_iff_lt, ge_iff_le] at h1
    apply G.skip
    apply G.seq
    apply G.block
    have hlb1 : (((toksN bs i1 h1' j).1.length + 1 : Nat) : Int) ≤ 4611686018427387904 := by omega
    have hlb2 : ((toksN bs i1 h1' j).1.length + 1) * 8 ≤ 70368744177664 := by omega
    refine G.rgN 2 tab_ok (kof_nil _) (hk := ?_)
    refine G.cf [0] en_l1Some (l1Some_mc _ bs (toksN bs i1 h1' j).2.1 (toksN bs i1 h1' j).2.2 rfl (toksN_cu hcu h1' j)) (h := ?_)
    refine G.rgC tab_ok (kof_nil _) (hk := ?_)
    apply G.blk
    refine G.rg tab_ok (kof_nil _) (hk := ?_)
    refine G.nmM [0, 5, 6] (hφ := fun m hm => first1 (show φ0.length = 1 from hφ0) hm rfl) (h := ?_)
    exact G.upto (hJ (j + 1) (by omega) (by omega)) (by simp [toksN]; exact ⟨by omega, rfl⟩)
  · try simp only [zz, bne_iff_ne, beq_iff_eq, bne_eq_false_iff_eq, beq_eq_false_iff_ne, ne_eq, gt_iff_lt, ge_iff_le] at h1
    refine G.exit rfl ?_
    apply G.seq
    refine G.rg tab_ok (kof_nil _) (hk := ?_)
    obtain rfl : j = K.toNat := by omega
    rw [hS]
    refine G.finM (junk := []) tab_ok (hr := ?_) (hh := ?_) (hq := ?_) (hl := ?_)
    · rfl
    · rfl
    · show (refLL _ _ && (refLL _ _ && true)) = true
      rw [pureLL_ref (pureLL_iv _)]
      rfl
    · rw [hφ0]; exact Nat.le_succ _
end Go.Proofs.Ytimgfinlbhodhaa.Ab
