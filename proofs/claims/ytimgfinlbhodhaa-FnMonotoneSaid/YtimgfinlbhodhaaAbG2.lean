/- Walks of functions of the program: what each answers, for all arguments that meet its conditions. -/
import Derived.Test.YtimgfinlbhodhaaAbG1
namespace Go.Proofs.Ytimgfinlbhodhaa.Ab
open Go
set_option linter.unusedVariables false
set_option linter.unusedSimpArgs false
set_option maxHeartbeats 4000000
theorem byte_mx (bs : List Int) (i hh : Int) (hc : CuOk bs i) : MX Try.prog 153 (X := Int × Int × Int) [some (3, [[.row false 1 (bs.map bv), .int .i64 (i), .int .i64 (hh)]])] [.ptr 0 0 0] (fun x => 0 ≤ x.1 ∧ x.1 ≤ 255 ∧ CuOk bs x.2.1) (fun x => .int .i64 x.1) (fun x => [some (3, [[.row false 1 (bs.map bv), .int .i64 (x.2.1), .int .i64 (x.2.2)]])]) :=
  MC.ex (curB bs i hh) ⟨(curB_ok bs i hh).1, (curB_ok bs i hh).2, curB_cu hc hh⟩ (l01Byte_mc _ bs i hh rfl hc)
theorem l01BelowB_mx (h : Heap) (bs : List Int) (i : Int) (hh : Int) (n : Int) (hc1 : h = [some (3, [[.row false 1 (bs.map bv), .int .i64 (i), .int .i64 (hh)]])]) (hc2 : CuOk bs i) (hc3 : 256 < n) (hc4 : n ≤ 1000) : MX Try.prog 86 (X := Int × Int × Int) h [.ptr 0 0 0, .int .i64 n] (fun x => 0 ≤ x.1 ∧ x.1 < n ∧ CuOk bs x.2.1) (fun x => .int .i64 x.1) (fun x => [some (3, [[.row false 1 (bs.map bv), .int .i64 (x.2.1), .int .i64 (x.2.2)]])]) := by
  subst hc1
  have hn1 : ¬ n ≤ 0 := by omega
  have hn2 : ¬ n ≤ 256 := by omega
  have hn0 : ¬ n = 0 := by omega
  refine MX.of tab_ok Try.func86 rfl (Nat.le_of_ble_eq_true rfl) fun w0 S0 fs0 φ0 hφ0 hq0 => ?_
  change G _ _ ⟨[(0, .ptr 0 0 0), (1, .int .i64 n)], _, 37⟩
  apply G.seq
  refine G.rg tab_ok (kof_nil _) (hk := ?_)
  apply G.seq
  apply G.seq
  refine G.rg tab_ok (kof_nil _) (hk := ?_)
  refine G.iffF (h2 := ?_)
  apply G.skip
  apply G.seq
  apply G.seq
  refine G.rg tab_ok (kof_nil _) (hk := ?_)
  refine G.iffF (h2 := ?_)
  apply G.skip
  apply G.seq
  refine G.rgN 1 tab_ok (kof_nil _) (hk := ?_)
  refine G.cfX [0] en_l01Byte (byte_mx bs i hh hc2) (h := fun y hy => ?_)
  obtain ⟨a, ca, ga⟩ := y
  simp only at hy
  obtain ⟨ha0, ha1, hcua⟩ := hy
  refine G.putX (h := ?_)
  refine G.rgC tab_ok (kof_nil _) (hk := ?_)
  apply G.seq
  refine G.rgN 1 tab_ok (kof_nil _) (hk := ?_)
  refine G.cfX [0] en_l01Byte (byte_mx bs ca ga hcua) (h := fun y hy => ?_)
  obtain ⟨b, cb, gb⟩ := y
  simp only at hy
  obtain ⟨hb0, hb1, hcub⟩ := hy
  refine G.putX (h := ?_)
  refine G.rgC tab_ok (kof_nil _) (hk := ?_)
  apply G.seq
  refine G.rgN 1 tab_ok (kof_nil _) (hk := ?_)
  refine G.cfX [0] en_l01Byte (byte_mx bs cb gb hcub) (h := fun y hy => ?_)
  obtain ⟨c, cc, gc⟩ := y
  simp only at hy
  obtain ⟨hc0, hc1, hcuc⟩ := hy
  refine G.putX (h := ?_)
  refine G.rgC tab_ok (kof_nil _) (hk := ?_)
  apply G.seq
  refine G.rgN 1 tab_ok (kof_nil _) (hk := ?_)
  refine G.cfX [0] en_l01Byte (byte_mx bs cc gc hcuc) (h := fun y hy => ?_)
  obtain ⟨d, cd, gd⟩ := y
  simp only at hy
  obtain ⟨hd0, hd1, hcud⟩ := hy
  refine G.putX (h := ?_)
  refine G.rgC tab_ok (kof_nil _) (hk := ?_)
  apply G.seq
  have w1 : IntKind.i64.wrap (a * 16777216) = a * 16777216 := wrap64 (by omega) (by omega)
  have w2 : IntKind.i64.wrap (b * 65536) = b * 65536 := wrap64 (by omega) (by omega)
  have w3 : IntKind.i64.wrap (a * 16777216 + b * 65536) = a * 16777216 + b * 65536 := wrap64 (by omega) (by omega)
  have w4 : IntKind.i64.wrap (c * 256) = c * 256 := wrap64 (by omega) (by omega)
  have w5 : IntKind.i64.wrap (a * 16777216 + b * 65536 + c * 256) = a * 16777216 + b * 65536 + c * 256 := wrap64 (by omega) (by omega)
  have w6 : IntKind.i64.wrap (a * 16777216 + b * 65536 + c * 256 + d) = a * 16777216 + b * 65536 + c * 256 + d := wrap64 (by omega) (by omega)
  have hz0 : 0 ≤ (a * 16777216 + b * 65536 + c * 256 + d).tmod n := Int.tmod_nonneg n (by omega)
  have hz1 : (a * 16777216 + b * 65536 + c * 256 + d).tmod n < n := Int.tmod_lt_of_pos _ (by omega)
  have w7 : IntKind.i64.wrap ((a * 16777216 + b * 65536 + c * 256 + d).tmod n) = (a * 16777216 + b * 65536 + c * 256 + d).tmod n := wrap64 (by omega) (by omega)
  refine G.rg tab_ok (kof_nil _) (hk := ?_)
  refine G.finMX (x := ((a * 16777216 + b * 65536 + c * 256 + d).tmod n, cd, gd)) (junk := []) ⟨hz0, hz1, hcud⟩ tab_ok (hr := ?_) (hh := ?_) (hp := ?_) (hq := ?_) (hl := ?_)
  · rfl
  · rfl
  · rfl
  · rfl
  · rw [hφ0]; exact Nat.le_refl _
theorem l01OnceB_mx (h : Heap) (bs : List Int) (i : Int) (hh : Int) (n : Int) (hc1 : h = [some (3, [[.row false 1 (bs.map bv), .int .i64 (i), .int .i64 (hh)]])]) (hc2 : CuOk bs i) (hc3 : 256 < n) (hc4 : n ≤ 1000) : MX Try.prog 139 (X := Bool × Int × Int) h [.ptr 0 0 0, .int .i64 n] (fun x => CuOk bs x.2.1) (fun x => .bool x.1) (fun x => [some (3, [[.row false 1 (bs.map bv), .int .i64 (x.2.1), .int .i64 (x.2.2)]])]) := by
  subst hc1
  refine MX.of tab_ok Try.func139 rfl (Nat.le_of_ble_eq_true rfl) fun w0 S0 fs0 φ0 hφ0 hq0 => ?_
  change G _ _ ⟨[(0, .ptr 0 0 0), (1, .int .i64 n)], _, 9⟩
  apply G.seq
  refine G.rg tab_ok (kof_nil _) (hk := ?_)
  apply G.seq
  refine G.rgN 2 tab_ok (kof_nil _) (hk := ?_)
  refine G.cfX [0] en_l01Below (l01BelowB_mx _ bs i hh n rfl hc2 hc3 hc4) (h := fun y hy => ?_)
  obtain ⟨a, ca, ga⟩ := y
  simp only at hy
  obtain ⟨ha0, ha1, hcua⟩ := hy
  refine G.putX (h := ?_)
  refine G.rgC tab_ok (kof_nil _) (hk := ?_)
  refine G.finMX (x := (a == 0, ca, ga)) (junk := []) hcua tab_ok (hr := ?_) (hh := ?_) (hp := ?_) (hq := ?_) (hl := ?_)
  · rfl
  · rfl
  · rfl
  · rfl
  · rw [hφ0]; exact Nat.le_refl _
end Go.Proofs.Ytimgfinlbhodhaa.Ab
