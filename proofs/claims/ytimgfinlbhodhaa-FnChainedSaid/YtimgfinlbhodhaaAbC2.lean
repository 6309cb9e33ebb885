/- Walks of functions of the program: what each answers, for all arguments that meet its conditions. -/
import Derived.Test.YtimgfinlbhodhaaAbC1
namespace Go.Proofs.Ytimgfinlbhodhaa.Ab
open Go
set_option linter.unusedVariables false
set_option linter.unusedSimpArgs false
set_option maxHeartbeats 4000000
theorem en_l01Byte : Enters Try.prog 153 := enters_of Try.func153 rfl rfl
theorem l01Below_mc (h : Heap) (bs : List Int) (i : Int) (hh : Int) (n : Int) (hc1 : h = [some (3, [[.row false 1 (bs.map bv), .int .i64 (i), .int .i64 (hh)]])]) (hc2 : CuOk bs i) (hc3 : n ≤ 256) : MC Try.prog 86 h [.ptr 0 0 0, .int .i64 n] (.int .i64 (bel bs i hh n).1) ([some (3, [[.row false 1 (bs.map bv), .int .i64 ((bel bs i hh n).2.1), .int .i64 ((bel bs i hh n).2.2)]])]) := by
  subst hc1
  refine MC.of tab_ok Try.func86 rfl (Nat.le_of_ble_eq_true rfl) fun w0 S0 fs0 φ0 hφ0 hq0 => ?_
  change G _ _ ⟨[(0, .ptr 0 0 0), (1, .int .i64 n)], _, 37⟩
  apply G.seq
  refine G.rg tab_ok (kof_nil _) (hk := ?_)
  apply G.seq
  apply G.seq
  refine G.rg tab_ok (kof_nil _) (hk := ?_)
  refine G.iff (h1 := fun h1 => ?_) (h2 := fun h1 => ?_)
  · try simp only [zz, bne_iff_ne, beq_iff_eq, bne_eq_false_iff_eq, beq_eq_false_iff_ne, ne_eq, gt_iff_lt, ge_iff_le] at h1
    apply G.seq
    refine G.rg tab_ok (kof_nil _) (hk := ?_)
    refine G.finM (junk := []) tab_ok (hr := ?_) (hh := ?_) (hq := ?_) (hl := ?_)
    · rw [bel_neg h1]; rfl
    · rw [bel_neg h1]; rfl
    · rfl
    · rw [hφ0]; exact Nat.le_refl _
  · try simp only [zz, bne_iff_ne, beq_iff_eq, bne_eq_false_iff_eq, beq_eq_false_iff_ne, ne_eq, gt_iff_lt, ge_iff_le] at h1
    apply G.skip
    apply G.seq
    apply G.seq
    refine G.rg tab_ok (kof_nil _) (hk := ?_)
    refine G.iffT (h1 := ?_)
    apply G.seq
    have hn0 : ¬ n = 0 := by omega
    refine G.rgN 1 tab_ok (kof_nil _) (hk := ?_)
    refine G.cf [0] en_l01Byte (l01Byte_mc _ bs i hh rfl hc2) (h := ?_)
    refine G.rgC tab_ok (kof_nil _) (hk := ?_)
    refine G.finM (junk := []) tab_ok (hr := ?_) (hh := ?_) (hq := ?_) (hl := ?_)
    · rw [bel_pos h1]; rfl
    · rw [bel_pos h1]; rfl
    · rfl
    · rw [hφ0]; exact Nat.le_refl _
theorem en_l01Below : Enters Try.prog 86 := enters_of Try.func86 rfl rfl
theorem l01Once_mc (h : Heap) (bs : List Int) (i : Int) (hh : Int) (n : Int) (hc1 : h = [some (3, [[.row false 1 (bs.map bv), .int .i64 (i), .int .i64 (hh)]])]) (hc2 : CuOk bs i) (hc3 : n ≤ 256) : MC Try.prog 139 h [.ptr 0 0 0, .int .i64 n] (.bool ((bel bs i hh n).1 == 0)) ([some (3, [[.row false 1 (bs.map bv), .int .i64 ((bel bs i hh n).2.1), .int .i64 ((bel bs i hh n).2.2)]])]) := by
  subst hc1
  refine MC.of tab_ok Try.func139 rfl (Nat.le_of_ble_eq_true rfl) fun w0 S0 fs0 φ0 hφ0 hq0 => ?_
  change G _ _ ⟨[(0, .ptr 0 0 0), (1, .int .i64 n)], _, 9⟩
  apply G.seq
  refine G.rg tab_ok (kof_nil _) (hk := ?_)
  apply G.seq
  refine G.rgN 2 tab_ok (kof_nil _) (hk := ?_)
  refine G.cf [0] en_l01Below (l01Below_mc _ bs i hh n rfl hc2 hc3) (h := ?_)
  refine G.rgC tab_ok (kof_nil _) (hk := ?_)
  refine G.finM (junk := []) tab_ok (hr := ?_) (hh := ?_) (hq := ?_) (hl := ?_)
  · rfl
  · rfl
  · rfl
  · rw [hφ0]; exact Nat.le_refl _
theorem l01Int_mc (h : Heap) (bs : List Int) (i : Int) (hh : Int) (l : List Int) (hc1 : h = [some (3, [[.row false 1 (bs.map bv), .int .i64 (i), .int .i64 (hh)]]), some (1, l.map iv)]) (hc2 : CuOk bs i) (hc3 : 0 < l.length) (hc4 : l.length ≤ 256) : MC Try.prog 64 h [.ptr 0 0 0, .sl 1 0 l.length] (.int .i64 (l.getD (bel bs i hh l.length).1.toNat default)) ([some (3, [[.row false 1 (bs.map bv), .int .i64 ((bel bs i hh l.length).2.1), .int .i64 ((bel bs i hh l.length).2.2)]]), some (1, l.map iv)]) := by
  subst hc1
  have hk := bel_ok bs i hh (n := (l.length : Int)) (by omega)
  have hk2 : (bel bs i hh (l.length : Int)).1.toNat < l.length := by omega
  have hk0 := hk.1
  have hk1 := hk.2
  clear hk
  refine MC.of tab_ok Try.func64 rfl (Nat.le_of_ble_eq_true rfl) fun w0 S0 fs0 φ0 hφ0 hq0 => ?_
  change G _ _ ⟨[(0, .ptr 0 0 0), (1, .sl 1 0 l.length)], _, 12⟩
  apply G.seq
  refine G.rg tab_ok (kof_nil _) (hk := ?_)
  apply G.seq
  refine G.rgN 4 tab_ok (kof_nil _) (hk := ?_)
  refine G.cf [0] en_l01Below (l01Below_mc _ bs i hh l.length rfl hc2 (by omega)) (h := ?_)
  refine G.rgC tab_ok (kof_nil _) (hk := ?_)
  refine G.finM (junk := []) tab_ok (hr := ?_) (hh := ?_) (hq := ?_) (hl := ?_)
  · rfl
  · rfl
  · show (refLL _ _ && (refLL _ _ && true)) = true
    rw [pureLL_ref (pureLL_iv _)]
    rfl
  · rw [hφ0]; exact Nat.le_refl _
theorem en_l01Once : Enters Try.prog 139 := enters_of Try.func139 rfl rfl
theorem en_l01Int : Enters Try.prog 64 := enters_of Try.func64 rfl rfl
theorem l1Some_mc (h : Heap) (bs : List Int) (i : Int) (hh : Int) (hc1 : h = [some (3, [[.row false 1 (bs.map bv), .int .i64 (i), .int .i64 (hh)]])]) (hc2 : CuOk bs i) : MC Try.prog 157 h [.ptr 0 0 0] (.int .i64 (someT bs i hh).1) ([some (3, [[.row false 1 (bs.map bv), .int .i64 ((someT bs i hh).2.1), .int .i64 ((someT bs i hh).2.2)]])]) := by
  subst hc1
  refine MC.of tab_ok Try.func157 rfl (Nat.le_of_ble_eq_true rfl) fun w0 S0 fs0 φ0 hφ0 hq0 => ?_
  change G _ _ ⟨[(0, .ptr 0 0 0)], _, 11⟩
  apply G.seq
  refine G.rg tab_ok (kof_nil _) (hk := ?_)
  apply G.seq
  apply G.seq
  refine G.rgN 1 tab_ok (kof_nil _) (hk := ?_)
  refine G.cf [0] en_l01Once (l01Once_mc _ bs i hh 9 rfl hc2 (by omega)) (h := ?_)
  refine G.rgC tab_ok (kof_nil _) (hk := ?_)
  refine G.iff (h1 := fun h1 => ?_) (h2 := fun h1 => ?_)
  · try simp only [zz, bne_iff_ne, beq_iff_eq, bne_eq_false_iff_eq, beq_eq_false_iff_ne, ne_eq, gt_iff_lt, ge_iff_le] at h1
    apply G.seq
    refine G.rgN 2 tab_ok (kof_nil _) (hk := ?_)
    refine G.cf [0, 1] en_l01Int (l01Int_mc _ bs (bel bs i hh 9).2.1 (bel bs i hh 9).2.2 [999999, -999999, 999998, 500000, -500000] rfl (bel_cu hc2 _ _) (by decide) (by decide)) (h := ?_)
    refine G.rgC tab_ok (kof_nil _) (hk := ?_)
    refine G.finM (junk := [some (1, [999999, -999999, 999998, 500000, -500000].map iv)]) tab_ok (hr := ?_) (hh := ?_) (hq := ?_) (hl := ?_)
    · rw [someT_y h1]; rfl
    · rw [someT_y h1]; rfl
    · rfl
    · rw [hφ0]; exact Nat.le_refl _
  · try simp only [zz, bne_iff_ne, beq_iff_eq, bne_eq_false_iff_eq, beq_eq_false_iff_ne, ne_eq, gt_iff_lt, ge_iff_le] at h1
    apply G.skip
    apply G.seq
    have hk := bel_ok bs (bel bs i hh 9).2.1 (bel bs i hh 9).2.2 (n := 15) (by omega)
    have hw : IntKind.i64.wrap ((bel bs (bel bs i hh 9).2.1 (bel bs i hh 9).2.2 15).1 - 5) = (bel bs (bel bs i hh 9).2.1 (bel bs i hh 9).2.2 15).1 - 5 := wrap64 (by omega) (by omega)
    refine G.rgN 1 tab_ok (kof_nil _) (hk := ?_)
    refine G.cf [0] en_l01Below (l01Below_mc _ bs (bel bs i hh 9).2.1 (bel bs i hh 9).2.2 15 rfl (bel_cu hc2 _ _) (by omega)) (h := ?_)
    refine G.rgC tab_ok (kof_nil _) (hk := ?_)
    refine G.finM (junk := []) tab_ok (hr := ?_) (hh := ?_) (hq := ?_) (hl := ?_)
    · rw [someT_n h1]; rfl
    · rw [someT_n h1]; rfl
    · rfl
    · rw [hφ0]; exact Nat.le_refl _
end Go.Proofs.Ytimgfinlbhodhaa.Ab
