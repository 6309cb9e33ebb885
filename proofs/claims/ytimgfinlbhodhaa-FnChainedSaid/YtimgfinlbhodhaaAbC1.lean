/- Walks of functions of the program: what each answers, for all arguments that meet its conditions. -/
import Derived.Test.YtimgfinlbhodhaaAbCur
import Derived.Test.YtimgfinlbhodhaaFwGc
import Derived.Test.YtimgfinlbhodhaaFwGa
namespace Go.Proofs.Ytimgfinlbhodhaa.Ab
open Go
set_option linter.unusedVariables false
set_option linter.unusedSimpArgs false
set_option maxHeartbeats 4000000
theorem l01Byte_mc (h : Heap) (bs : List Int) (i : Int) (hh : Int) (hc1 : h = [some (3, [[.row false 1 (bs.map bv), .int .i64 (i), .int .i64 (hh)]])]) (hc2 : CuOk bs i) : MC Try.prog 153 h [.ptr 0 0 0] (.int .i64 (curB bs i hh).1) ([some (3, [[.row false 1 (bs.map bv), .int .i64 ((curB bs i hh).2.1), .int .i64 ((curB bs i hh).2.2)]])]) := by
  subst hc1
  have hand := andI_eq
  have hxor := xorI_eq
  have hb33 : min 33 IntKind.i64.bits = 33 := by decide
  have hb45 : min 45 IntKind.i64.bits = 45 := by decide
  have hl := hc2.l
  have hi0 := hc2.i0
  have hi1 := hc2.i1
  refine MC.of tab_ok Try.func153 rfl (Nat.le_of_ble_eq_true rfl) fun w0 S0 fs0 φ0 hφ0 hq0 => ?_
  change G _ _ ⟨[(0, .ptr 0 0 0)], _, 58⟩
  apply G.seq
  refine G.rg tab_ok (kof_nil _) (hk := ?_)
  apply G.seq
  refine G.rg tab_ok (kof_nil _) (hk := ?_)
  apply G.seq
  refine G.dr mixed tab_ok (kof_nil _) [0, 1, 2, 3, 4, 5, 6, 7, 8, 9, 10, 11, 12] (hk := ?_)
  apply G.seq
  apply G.seq
  refine G.dr mixed tab_ok (kof_nil _) [0, 1, 2, 3, 4, 5, 6, 7, 8, 9] (hk := ?_)
  refine G.fg [0, 3, 34, 35, 36, 37, 38, 39, 40, 41, 42, 43, 44, 45, 46, 47, 48] (hk := ?_)
  refine G.iff (h1 := fun h1 => ?_) (h2 := fun h1 => ?_)
  · try simp only [zz, bne_iff_ne, beq_iff_eq, bne_eq_false_iff_eq, beq_eq_false_iff_ne, ne_eq, gt_iff_lt, ge_iff_le] at h1
    apply G.seq
    have hk : i.toNat < bs.length := by omega
    have hby := hc2.w.ok _ (List.getElem_mem hk)
    have hbe : bs.getD i.toNat default = bs[i.toNat] := by rw [List.getD_eq_getElem?_getD, List.getElem?_eq_getElem hk]; rfl
    have hget : (List.map bv bs)[i.toNat]? = some [.int .u8 bs[i.toNat]] := by simp [hk, bv]
    have hwx : IntKind.i64.wrap bs[i.toNat] = bs[i.toNat] := wrap64 (by omega) (by omega)
    have hw : IntKind.i64.wrap (i + 1) = i + 1 := wrap64 (by omega) (by omega)
    refine G.dr mixed tab_ok (kof_nil _) [0, 1, 2, 3, 4, 5, 6, 7, 8, 9, 10, 11, 12, 13, 14] (hk := ?_)
    refine G.rg tab_ok (kof_nil _) (hk := ?_)
    apply G.seq
    refine G.rg tab_ok (kof_nil _) (hk := ?_)
    refine G.finM (junk := []) tab_ok (hr := ?_) (hh := ?_) (hq := ?_) (hl := ?_)
    · rw [curB_in h1 hk]; rfl
    · rw [curB_in h1 hk]; rfl
    · rfl
    · rw [hφ0]; exact Nat.le_refl _
  · try simp only [zz, bne_iff_ne, beq_iff_eq, bne_eq_false_iff_eq, beq_eq_false_iff_ne, ne_eq, gt_iff_lt, ge_iff_le] at h1
    apply G.skip
    apply G.seq
    refine G.rg tab_ok (kof_nil _) (hk := ?_)
    refine G.finM (junk := []) tab_ok (hr := ?_) (hh := ?_) (hq := ?_) (hl := ?_)
    · rw [curB_out (by omega)]; rfl
    · rw [curB_out (by omega)]; rfl
    · rfl
    · rw [hφ0]; exact Nat.le_refl _
end Go.Proofs.Ytimgfinlbhodhaa.Ab
