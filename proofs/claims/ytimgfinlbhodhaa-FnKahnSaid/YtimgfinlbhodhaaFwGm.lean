/- Walks of functions of the program, and the plain definitions. -/
import Derived.Test.YtimgfinlbhodhaaAbGen
import Derived.Test.YtimgfinlbhodhaaFwGl
import Derived.Test.YtimgfinlbhodhaaAbAutoI
import Derived.Test.YtimgfinlbhodhaaAbFreeze
import Derived.Test.YtimgfinlbhodhaaAbWire
import Derived.Test.YtimgfinlbhodhaaFwGe
namespace Go.Proofs.Ytimgfinlbhodhaa.Ab
open Go
set_option linter.unusedVariables false
set_option linter.unusedSimpArgs false
set_option maxHeartbeats 4000000
theorem ok_l2Program : Kn.ok Try.prog (kof [(156, q_l2Make)]) := kof_cons k_l2Make ((kof_nil _))
theorem below_mx (bs : List Int) (i hh n : Int) (hc : CuOk bs i) (h0 : 0 < n) (h1 : n ≤ 256) : MX Try.prog 86 (X := Int × Int × Int) [some (3, [[.row false 1 (bs.map bv), .int .i64 (i), .int .i64 (hh)]])] [.ptr 0 0 0, .int .i64 n] (fun x => 0 ≤ x.1 ∧ x.1 < n ∧ CuOk bs x.2.1) (fun x => .int .i64 x.1) (fun x => [some (3, [[.row false 1 (bs.map bv), .int .i64 (x.2.1), .int .i64 (x.2.2)]])]) :=
 MC.ex (bel bs i hh n) ⟨(bel_ok bs i hh h0).1, (bel_ok bs i hh h0).2, bel_cu hc hh n⟩ (l01Below_mc _ bs i hh n rfl hc h1)
theorem once_mx (bs : List Int) (i hh n : Int) (hc : CuOk bs i) (h1 : n ≤ 256) : MX Try.prog 139 (X := Bool × Int × Int) [some (3, [[.row false 1 (bs.map bv), .int .i64 (i), .int .i64 (hh)]])] [.ptr 0 0 0, .int .i64 n] (fun x => CuOk bs x.2.1) (fun x => .bool x.1) (fun x => [some (3, [[.row false 1 (bs.map bv), .int .i64 (x.2.1), .int .i64 (x.2.2)]])]) :=
 MC.ex ((bel bs i hh n).1 == 0, (bel bs i hh n).2) (bel_cu hc hh n) (l01Once_mc _ bs i hh n rfl hc h1)
theorem int_mx (bs : List Int) (i hh : Int) (l : List Int) (hc : CuOk bs i) (h0 : 0 < l.length) (h1 : l.length ≤ 256) : MX Try.prog 64 (X := Int × Int × Int) [some (3, [[.row false 1 (bs.map bv), .int .i64 (i), .int .i64 (hh)]]), some (1, l.map iv)] [.ptr 0 0 0, .sl 1 0 l.length] (fun x => x.1 ∈ l ∧ CuOk bs x.2.1) (fun x => .int .i64 x.1) (fun x => [some (3, [[.row false 1 (bs.map bv), .int .i64 (x.2.1), .int .i64 (x.2.2)]]), some (1, l.map iv)]) :=
 MC.ex (l.getD (bel bs i hh l.length).1.toNat default, (bel bs i hh l.length).2) ⟨by
  have hk := bel_ok bs i hh (n := (l.length : Int)) (by omega)
  exact getD_mem0 (by omega), bel_cu hc hh _⟩ (l01Int_mc _ bs i hh l rfl hc h0 h1)
theorem l2Program_mx (h : Heap) (bs : List Int) (i : Int) (hh : Int) (p : Int) (q : Int) (hc1 : h = [some (3, [[.row false 1 (bs.map bv), .int .i64 (i), .int .i64 (hh)]])]) (hc2 : CuOk bs i) (hc3 : 0 ≤ p) (hc4 : p ≤ 3) (hc5 : 0 ≤ q) (hc6 : q ≤ 3) : MX Try.prog 92 (X := List I4 × Int × Int) h [.ptr 0 0 0, .int .i64 p, .int .i64 q] (fun x => progOk p q x.1 = true ∧ CuOk bs x.2.1) (fun x => .agg [.int .i64 p, .int .i64 q, .sl 1 0 x.1.length]) (fun x => [some (3, [[.row false 1 (bs.map bv), .int .i64 (x.2.1), .int .i64 (x.2.2)]]), some (4, x.1.map insv)]) := by
 have e_l2Make := e_l2Make
 subst hc1
 have hivl := ivL_eq
 have hpiv := pureLL_ivL
 have hriv := roLL_ivL
 refine MX.of tab_ok Try.func92 rfl (Nat.le_of_ble_eq_true rfl) fun w0 S0 fs0 φ0 hφ0 hq0 => ?_
 change G _ _ ⟨[(0, .ptr 0 0 0), (1, .int .i64 p), (2, .int .i64 q)], _, 102⟩
 apply G.seq
 refine G.rg tab_ok ok_l2Program (hk := ?_)
 apply G.seq
 refine G.rg tab_ok ok_l2Program (hk := ?_)
 apply G.seq
 apply G.seq
 refine G.rg tab_ok ok_l2Program (hk := ?_)
 apply G.block
 refine G.nmM [0, 1, 2, 6, 7, 8] (hφ := fun m hm => first1 (show φ0.length = 1 from hφ0) hm rfl) (h := ?_)
 refine G.loopX (fun x : List (List Int) × Nat × Int × Int => ⟨[(0, .ptr 0 0 0), (1, .int .i64 p), (2, .int .i64 q), (6, .ptr 1 0 0), (7, .sl 2 0 x.1.length), (8, .int .i64 (x.2.1 : Nat))], [some (3, [[.row false 1 (bs.map bv), .int .i64 (x.2.2.1), .int .i64 (x.2.2.2)]]), some (3, [[.int .i64 0, .int .i64 0, .nils]]), some (1, x.1.map ivL)], 102⟩) (fun x => RW p q x.1 x.2.1 ∧ (x.2.1 : Int) ≤ p ∧ CuOk bs x.2.2.1) (fun x => p.toNat - x.2.1) (([], 0, i, hh)) (⟨rw_nil p q, by simp only; omega, hc2⟩) (rfl) ?_
 intro x hx J hJ
 obtain ⟨L, j, ci, ch⟩ := x
 simp only at hx ⊢
 obtain ⟨hrw, hjp, hcu⟩ := hx
 have hwj : IntKind.i64.wrap ((j : Int) + 1) = ((j + 1 : Nat) : Int) := by rw [wrap64 (by omega) (by omega)]; omega
 have hql : List.take L.length (L.map ivL) = L.map ivL := List.take_of_length_le (by simp)
 have hLl := hrw.len
 have hq1 : ((L.length + 1 : Nat) : Int) ≤ 4611686018427387904 := by omega
 have hq2 : (L.length + 1) * 24 ≤ 70368744177664 := by omega
 apply G.seq
 apply G.seq
 refine G.rg tab_ok ok_l2Program (hk := ?_)
 refine G.iff (h1 := fun h1 => ?_) (h2 := fun h1 => ?_)
 ·try simp only [zqz] at h1
  apply G.skip
  apply G.seq
  apply G.block
  refine G.rgN 2 tab_ok (kof_nil _) (hk := ?_)
  refine G.cfX [0] en_l01Below (below_mx bs ci ch 2 hcu (by omega) (by omega)) (h := fun y hy => ?_)
  obtain ⟨a, ca, ga⟩ := y
  simp only at hy
  obtain ⟨ha0, ha1, hcua⟩ := hy
  refine G.putX (h := ?_)
  refine G.rgM 2 tab_ok (kof_nil _) (hk := ?_)
  refine G.freeze 21 3 rfl (by simp [look]) ?_
  simp only [List.set_cons_succ, List.set_cons_zero, roLL, roL, ro]
  have hap : L.map ivL ++ [[.row false 1 [[.int .i64 (1)], [.int .i64 (a)], [.int .i64 ((j : Int))]]]] = (L ++ [[1, a, (j : Int)]]).map ivL := by simp [ivL, iv]
  refine G.rgC tab_ok (kof_nil _) (hk := ?_)
  apply G.blk
  refine G.rg tab_ok ok_l2Program (hk := ?_)
  refine G.nmM [0, 1, 2, 6, 7, 8] (hφ := fun m hm => first1 (show φ0.length = 1 from hφ0) hm rfl) (h := ?_)
  exact G.upto (hJ (L ++ [[1, a, (j : Int)]], j + 1, ca, ga) ⟨rw_add hrw (row_read ha0 ha1 (by omega) (by omega)), by simp only; omega, hcua⟩ (by simp only; omega)) (by simp)
 ·try simp only [zqz] at h1
  refine G.exit rfl ?_
  apply G.seq
  apply G.seq
  refine G.rgN 1 tab_ok (kof_nil _) (hk := ?_)
  refine G.cfX [0] en_l01Below (below_mx bs ci ch 3 hcu (by omega) (by omega)) (h := fun y hy => ?_)
  obtain ⟨a, ca, ga⟩ := y
  simp only at hy
  obtain ⟨ha0, ha1, hcua⟩ := hy
  refine G.putX (h := ?_)
  refine G.rgC tab_ok (kof_nil _) (hk := ?_)
  apply G.block
  refine G.nmM [0, 1, 2, 6, 7, 9] (hφ := fun m hm => first1 (show φ0.length = 1 from hφ0) hm rfl) (h := ?_)
  refine G.loopX (fun x : List (List Int) × Int × Int × Int => ⟨[(0, .ptr 0 0 0), (1, .int .i64 p), (2, .int .i64 q), (6, .ptr 1 0 0), (7, .sl 2 0 x.1.length), (9, .int .i64 x.2.1)], [some (3, [[.row false 1 (bs.map bv), .int .i64 (x.2.2.1), .int .i64 (x.2.2.2)]]), some (3, [[.int .i64 0, .int .i64 0, .nils]]), some (1, x.1.map ivL)], 102⟩) (fun x => RW p q x.1 (5 - x.2.1.toNat) ∧ 0 ≤ x.2.1 ∧ x.2.1 ≤ 2 ∧ CuOk bs x.2.2.1) (fun x => x.2.1.toNat) ((L, a, ca, ga)) (⟨hrw.more (by simp only; omega), ha0, by simp only; omega, hcua⟩) (rfl) ?_
  intro x hx J hJ
  clear hrw hcu hcua ha0 ha1 hql hLl hq1 hq2 hjp hwj
  obtain ⟨L, z, ci, ch⟩ := x
  simp only at hx ⊢
  obtain ⟨hrw, hz0, hz2, hcu⟩ := hx
  have hwz : IntKind.i64.wrap (z - 1) = z - 1 := wrap64 (by omega) (by omega)
  have hql : List.take L.length (L.map ivL) = L.map ivL := List.take_of_length_le (by simp)
  have hLl := hrw.len
  have hq1 : ((L.length + 1 : Nat) : Int) ≤ 4611686018427387904 := by omega
  have hq2 : (L.length + 1) * 24 ≤ 70368744177664 := by omega
  apply G.seq
  apply G.seq
  refine G.rg tab_ok ok_l2Program (hk := ?_)
  refine G.iff (h1 := fun h2 => ?_) (h2 := fun h2 => ?_)
  ·try simp only [zqz] at h2
   apply G.skip
   apply G.seq
   apply G.block
   refine G.rgN 3 tab_ok (kof_nil _) (hk := ?_)
   refine G.cfX [0, 3] en_l01Int (int_mx bs ci ch [4, 5, 6, 7] hcu (by decide) (by decide)) (h := fun y hy => ?_)
   obtain ⟨a, ca, ga⟩ := y
   simp only at hy
   obtain ⟨hma, hcua⟩ := hy
   refine G.putX (h := ?_)
   refine G.rgM 1 tab_ok (kof_nil _) (hk := ?_)
   refine G.cfX [0] en_l01Below (below_mx bs ca ga 4 hcua (by omega) (by omega)) (h := fun y hy => ?_)
   obtain ⟨b, cb, gb⟩ := y
   simp only at hy
   obtain ⟨hb0, hb1, hcub⟩ := hy
   refine G.putX (h := ?_)
   refine G.rgM 1 tab_ok (kof_nil _) (hk := ?_)
   refine G.cfX [0] en_l01Below (below_mx bs cb gb 4 hcub (by omega) (by omega)) (h := fun y hy => ?_)
   obtain ⟨c, cc, gc⟩ := y
   simp only at hy
   obtain ⟨hc0, hc1, hcuc⟩ := hy
   refine G.putX (h := ?_)
   refine G.rgM 1 tab_ok (kof_nil _) (hk := ?_)
   refine G.cfX [0] en_l01Below (below_mx bs cc gc 4 hcuc (by omega) (by omega)) (h := fun y hy => ?_)
   obtain ⟨d, cd, gd⟩ := y
   simp only at hy
   obtain ⟨hd0, hd1, hcud⟩ := hy
   refine G.putX (h := ?_)
   refine G.rgM 1 tab_ok (kof_nil _) (hk := ?_)
   refine G.freeze 40 4 rfl (by simp [look]) ?_
   simp only [List.set_cons_succ, List.set_cons_zero, roLL, roL, ro]
   have hap : L.map ivL ++ [[.row false 1 [[.int .i64 (a)], [.int .i64 (b)], [.int .i64 (c)], [.int .i64 (d)]]]] = (L ++ [[a, b, c, d]]).map ivL := by simp [ivL, iv]
   refine G.rgC tab_ok (kof_nil _) (hk := ?_)
   apply G.blk
   refine G.rg tab_ok ok_l2Program (hk := ?_)
   refine G.nmM [0, 1, 2, 6, 7, 9] (hφ := fun m hm => first1 (show φ0.length = 1 from hφ0) hm rfl) (h := ?_)
   exact G.upto (hJ (L ++ [[a, b, c, d]], z - 1, cd, gd) ⟨(rw_add hrw (row_alu hma hb0 hb1 hc0 hc1 hd0 hd1)).more (by simp only; omega), by simp only; omega, by simp only; omega, hcud⟩ (by simp only; omega)) (by simp)
  ·try simp only [zqz] at h2
   refine G.exit rfl ?_
   apply G.seq
   apply G.seq
   apply G.fam (X := List (List Int) × Int × Int) (fun x => ⟨[(0, .ptr 0 0 0), (1, .int .i64 p), (2, .int .i64 q), (6, .ptr 1 0 0), (7, .sl 2 0 x.1.length)], [some (3, [[.row false 1 (bs.map bv), .int .i64 (x.2.1), .int .i64 (x.2.2)]]), some (3, [[.int .i64 0, .int .i64 0, .nils]]), some (1, x.1.map ivL)], 102⟩) (fun x => RW p q x.1 6 ∧ CuOk bs x.2.1)
   ·intro hfam10
    refine G.rgN 1 tab_ok (kof_nil _) (hk := ?_)
    refine G.cfX [0] en_l01Once (once_mx bs ci ch 3 hcu (by omega)) (h := fun y hy => ?_)
    obtain ⟨a, ca, ga⟩ := y
    simp only at hy
    have hcua := hy
    refine G.putX (h := ?_)
    refine G.rgC tab_ok (kof_nil _) (hk := ?_)
    refine G.iff (h1 := fun h3 => ?_) (h2 := fun h3 => ?_)
    ·try simp only [zqz] at h3
     refine G.rgN 2 tab_ok (kof_nil _) (hk := ?_)
     refine G.cfX [0] en_l01Below (below_mx bs ca ga 4 hcua (by omega) (by omega)) (h := fun y hy => ?_)
     obtain ⟨b, cb, gb⟩ := y
     simp only at hy
     obtain ⟨hb0, hb1, hcub⟩ := hy
     refine G.putX (h := ?_)
     refine G.rgM 1 tab_ok (kof_nil _) (hk := ?_)
     refine G.cfX [0] en_l01Below (below_mx bs cb gb 7 hcub (by omega) (by omega)) (h := fun y hy => ?_)
     obtain ⟨c, cc, gc⟩ := y
     simp only at hy
     obtain ⟨hc0, hc1, hcuc⟩ := hy
     refine G.putX (h := ?_)
     have hwc : IntKind.i64.wrap (c - 2) = c - 2 := wrap64 (by omega) (by omega)
     refine G.rgM 2 tab_ok (kof_nil _) (hk := ?_)
     refine G.freeze 51 3 rfl (by simp [look]) ?_
     simp only [List.set_cons_succ, List.set_cons_zero, roLL, roL, ro]
     have hap : L.map ivL ++ [[.row false 1 [[.int .i64 (3)], [.int .i64 (b)], [.int .i64 (c - 2)]]]] = (L ++ [[3, b, c - 2]]).map ivL := by simp [ivL, iv]
     refine G.rgC tab_ok (kof_nil _) (hk := ?_)
     refine G.nmM [0, 1, 2, 6, 7] (hφ := fun m hm => first1 (show φ0.length = 1 from hφ0) hm rfl) (h := ?_)
     first
     | exact G.toFam hfam10 (L ++ [[3, b, c - 2]], cc, gc) ⟨(rw_add hrw (row_set hb0 hb1 hc0 hc1)).more (by omega), hcuc⟩ (by simp)
     | exact G.toFam hfam10 (L, ca, ga) ⟨hrw.more (by omega), hcua⟩ (by simp)
    ·try simp only [zqz] at h3
     apply G.skip
     refine G.nmM [0, 1, 2, 6, 7] (hφ := fun m hm => first1 (show φ0.length = 1 from hφ0) hm rfl) (h := ?_)
     first
     | exact G.toFam hfam10 (L ++ [[3, b, c - 2]], cc, gc) ⟨(rw_add hrw (row_set hb0 hb1 hc0 hc1)).more (by omega), hcuc⟩ (by simp)
     | exact G.toFam hfam10 (L, ca, ga) ⟨hrw.more (by omega), hcua⟩ (by simp)
   ·intro x hx
    clear hrw hcu hql hLl hq1 hq2
    obtain ⟨L, ci, ch⟩ := x
    simp only at hx ⊢
    obtain ⟨hrw, hcu⟩ := hx
    have hql : List.take L.length (L.map ivL) = L.map ivL := List.take_of_length_le (by simp)
    have hLl := hrw.len
    have hq1 : ((L.length + 1 : Nat) : Int) ≤ 4611686018427387904 := by omega
    have hq2 : (L.length + 1) * 24 ≤ 70368744177664 := by omega
    apply G.seq
    apply G.seq
    apply G.fam (X := List (List Int) × Int × Int) (fun x => ⟨[(0, .ptr 0 0 0), (1, .int .i64 p), (2, .int .i64 q), (6, .ptr 1 0 0), (7, .sl 2 0 x.1.length)], [some (3, [[.row false 1 (bs.map bv), .int .i64 (x.2.1), .int .i64 (x.2.2)]]), some (3, [[.int .i64 0, .int .i64 0, .nils]]), some (1, x.1.map ivL)], 102⟩) (fun x => RW p q x.1 7 ∧ CuOk bs x.2.1)
    ·intro hfam12
     refine G.rgN 1 tab_ok (kof_nil _) (hk := ?_)
     refine G.cfX [0] en_l01Once (once_mx bs ci ch 3 hcu (by omega)) (h := fun y hy => ?_)
     obtain ⟨a, ca, ga⟩ := y
     simp only at hy
     have hcua := hy
     refine G.putX (h := ?_)
     refine G.rgC tab_ok (kof_nil _) (hk := ?_)
     refine G.iff (h1 := fun h4 => ?_) (h2 := fun h4 => ?_)
     ·try simp only [zqz] at h4
      refine G.rgN 3 tab_ok (kof_nil _) (hk := ?_)
      refine G.cfX [0, 3] en_l01Int (int_mx bs ca ga [9, 10] hcua (by decide) (by decide)) (h := fun y hy => ?_)
      obtain ⟨b, cb, gb⟩ := y
      simp only at hy
      obtain ⟨hmb, hcub⟩ := hy
      refine G.putX (h := ?_)
      refine G.rgM 1 tab_ok (kof_nil _) (hk := ?_)
      refine G.cfX [0] en_l01Below (below_mx bs cb gb 4 hcub (by omega) (by omega)) (h := fun y hy => ?_)
      obtain ⟨c, cc, gc⟩ := y
      simp only at hy
      obtain ⟨hc0, hc1, hcuc⟩ := hy
      refine G.putX (h := ?_)
      have hwl : IntKind.i64.wrap ((L.length : Int) + 1) = (L.length : Int) + 1 := wrap64 (by omega) (by omega)
      refine G.rgM 4 tab_ok (kof_nil _) (hk := ?_)
      refine G.cfX [0] en_l01Below (below_mx bs cc gc 2 hcuc (by omega) (by omega)) (h := fun y hy => ?_)
      obtain ⟨d, cd, gd⟩ := y
      simp only at hy
      obtain ⟨hd0, hd1, hcud⟩ := hy
      refine G.putX (h := ?_)
      have hwd : IntKind.i64.wrap ((L.length : Int) + 1 + d) = (L.length : Int) + 1 + d := wrap64 (by omega) (by omega)
      refine G.rgM 2 tab_ok (kof_nil _) (hk := ?_)
      refine G.freeze 68 4 rfl (by simp [look]) ?_
      simp only [List.set_cons_succ, List.set_cons_zero, roLL, roL, ro]
      have hap : L.map ivL ++ [[.row false 1 [[.int .i64 (b)], [.int .i64 (c)], [.int .i64 ((L.length : Int) + 1 + d)]]]] = (L ++ [[b, c, (L.length : Int) + 1 + d]]).map ivL := by simp [ivL, iv]
      refine G.rgC tab_ok (kof_nil _) (hk := ?_)
      refine G.nmM [0, 1, 2, 6, 7] (hφ := fun m hm => first1 (show φ0.length = 1 from hφ0) hm rfl) (h := ?_)
      first
      | exact G.toFam hfam12 (L ++ [[b, c, (L.length : Int) + 1 + d]], cd, gd) ⟨rw_add hrw (row_jump hmb hc0 hc1 (by omega) (by omega)), hcud⟩ (by simp)
      | exact G.toFam hfam12 (L, ca, ga) ⟨hrw.more (by omega), hcua⟩ (by simp)
     ·try simp only [zqz] at h4
      apply G.skip
      refine G.nmM [0, 1, 2, 6, 7] (hφ := fun m hm => first1 (show φ0.length = 1 from hφ0) hm rfl) (h := ?_)
      first
      | exact G.toFam hfam12 (L ++ [[b, c, (L.length : Int) + 1 + d]], cd, gd) ⟨rw_add hrw (row_jump hmb hc0 hc1 (by omega) (by omega)), hcud⟩ (by simp)
      | exact G.toFam hfam12 (L, ca, ga) ⟨hrw.more (by omega), hcua⟩ (by simp)
    ·intro x hx
     clear hrw hcu hql hLl hq1 hq2
     obtain ⟨L, ci, ch⟩ := x
     simp only at hx ⊢
     obtain ⟨hrw, hcu⟩ := hx
     have hql : List.take L.length (L.map ivL) = L.map ivL := List.take_of_length_le (by simp)
     have hLl := hrw.len
     have hq1 : ((L.length + 1 : Nat) : Int) ≤ 4611686018427387904 := by omega
     have hq2 : (L.length + 1) * 24 ≤ 70368744177664 := by omega
     apply G.seq
     apply G.seq
     refine G.rg tab_ok ok_l2Program (hk := ?_)
     apply G.block
     refine G.nmM [0, 1, 2, 6, 7, 10] (hφ := fun m hm => first1 (show φ0.length = 1 from hφ0) hm rfl) (h := ?_)
     refine G.loopX (fun x : List (List Int) × Nat × Int × Int => ⟨[(0, .ptr 0 0 0), (1, .int .i64 p), (2, .int .i64 q), (6, .ptr 1 0 0), (7, .sl 2 0 x.1.length), (10, .int .i64 (x.2.1 : Nat))], [some (3, [[.row false 1 (bs.map bv), .int .i64 (x.2.2.1), .int .i64 (x.2.2.2)]]), some (3, [[.int .i64 0, .int .i64 0, .nils]]), some (1, x.1.map ivL)], 102⟩) (fun x => RW p q x.1 (7 + 2 * x.2.1) ∧ (x.2.1 : Int) ≤ q ∧ CuOk bs x.2.2.1) (fun x => q.toNat - x.2.1) ((L, 0, ci, ch)) (⟨hrw.more (by simp), by simp only; omega, hcu⟩) (rfl) ?_
     intro x hx J hJ
     clear hrw hcu hql hLl hq1 hq2
     obtain ⟨L, j, ci, ch⟩ := x
     simp only at hx ⊢
     obtain ⟨hrw, hjp, hcu⟩ := hx
     have hwj : IntKind.i64.wrap ((j : Int) + 1) = ((j + 1 : Nat) : Int) := by rw [wrap64 (by omega) (by omega)]; omega
     have hql : List.take L.length (L.map ivL) = L.map ivL := List.take_of_length_le (by simp)
     have hLl := hrw.len
     have hq1 : ((L.length + 1 : Nat) : Int) ≤ 4611686018427387904 := by omega
     have hq2 : (L.length + 1) * 24 ≤ 70368744177664 := by omega
     apply G.seq
     apply G.seq
     refine G.rg tab_ok ok_l2Program (hk := ?_)
     refine G.iff (h1 := fun h5 => ?_) (h2 := fun h5 => ?_)
     ·try simp only [zqz] at h5
      apply G.skip
      apply G.seq
      apply G.block
      apply G.seq
      refine G.rgN 2 tab_ok (kof_nil _) (hk := ?_)
      refine G.cfX [0] en_l01Below (below_mx bs ci ch 3 hcu (by omega) (by omega)) (h := fun y hy => ?_)
      obtain ⟨a, ca, ga⟩ := y
      simp only at hy
      obtain ⟨ha0, ha1, hcua⟩ := hy
      refine G.putX (h := ?_)
      refine G.rgM 2 tab_ok (kof_nil _) (hk := ?_)
      refine G.freeze 80 3 rfl (by simp [look]) ?_
      simp only [List.set_cons_succ, List.set_cons_zero, roLL, roL, ro]
      have hap : L.map ivL ++ [[.row false 1 [[.int .i64 (2)], [.int .i64 (a)], [.int .i64 ((j : Int))]]]] = (L ++ [[2, a, (j : Int)]]).map ivL := by simp [ivL, iv]
      refine G.rgC tab_ok (kof_nil _) (hk := ?_)
      apply G.seq
      have hrw2 : RW p q (L ++ [[2, a, (j : Int)]]) (7 + 2 * j + 1) := rw_add hrw (row_write ha0 ha1 (by omega) (by omega))
      have hml : L.length + 1 = (L ++ [[2, a, (j : Int)]]).length := by simp
      obtain ⟨M, hM⟩ : ∃ x, L ++ [[2, a, (j : Int)]] = x := ⟨_, rfl⟩
      rw [hM] at hrw2 hml
      simp only [hM, hml]
      clear hap hM hml hql hLl hq1 hq2
      have hql : List.take M.length (M.map ivL) = M.map ivL := List.take_of_length_le (by simp)
      have hLl := hrw2.len
      have hq1 : ((M.length + 1 : Nat) : Int) ≤ 4611686018427387904 := by omega
      have hq2 : (M.length + 1) * 24 ≤ 70368744177664 := by omega
      refine G.rgN 1 tab_ok (kof_nil _) (hk := ?_)
      refine G.cfX [0] en_l01Once (once_mx bs ca ga 8 hcua (by omega)) (h := fun y hy => ?_)
      obtain ⟨b, cb, gb⟩ := y
      simp only at hy
      have hcub := hy
      refine G.putX (h := ?_)
      refine G.rgC tab_ok (kof_nil _) (hk := ?_)
      refine G.fg [0, 1, 2, 6, 7, 10, 84] (hk := ?_)
      refine G.iff (h1 := fun h6 => ?_) (h2 := fun h6 => ?_)
      ·try simp only [zqz] at h6
       refine G.rgN 2 tab_ok (kof_nil _) (hk := ?_)
       refine G.cfX [0] en_l01Below (below_mx bs cb gb 3 hcub (by omega) (by omega)) (h := fun y hy => ?_)
       obtain ⟨e, ce, ge⟩ := y
       simp only at hy
       obtain ⟨he0, he1, hcue⟩ := hy
       refine G.putX (h := ?_)
       refine G.rgM 2 tab_ok (kof_nil _) (hk := ?_)
       refine G.freeze 89 6 rfl (by simp [look]) ?_
       simp only [List.set_cons_succ, List.set_cons_zero, roLL, roL, ro]
       have hap : M.map ivL ++ [[.row false 1 [[.int .i64 (2)], [.int .i64 (e)], [.int .i64 ((j : Int))]]]] = (M ++ [[2, e, (j : Int)]]).map ivL := by simp [ivL, iv]
       refine G.rgC tab_ok (kof_nil _) (hk := ?_)
       apply G.blk
       refine G.rg tab_ok ok_l2Program (hk := ?_)
       refine G.nmM [0, 1, 2, 6, 7, 10] (hφ := fun m hm => first1 (show φ0.length = 1 from hφ0) hm rfl) (h := ?_)
       first
       | exact G.upto (hJ (M ++ [[2, e, (j : Int)]], j + 1, ce, ge) ⟨(rw_add hrw2 (row_write he0 he1 (by omega) (by omega))).more (by simp only; omega), by simp only; omega, hcue⟩ (by simp only; omega)) (by simp)
       | exact G.upto (hJ (M, j + 1, cb, gb) ⟨hrw2.more (by simp only; omega), by simp only; omega, hcub⟩ (by simp only; omega)) (by simp)
      ·try simp only [zqz] at h6
       apply G.skip
       apply G.blk
       refine G.rg tab_ok ok_l2Program (hk := ?_)
       refine G.nmM [0, 1, 2, 6, 7, 10] (hφ := fun m hm => first1 (show φ0.length = 1 from hφ0) hm rfl) (h := ?_)
       first
       | exact G.upto (hJ (M ++ [[2, e, (j : Int)]], j + 1, ce, ge) ⟨(rw_add hrw2 (row_write he0 he1 (by omega) (by omega))).more (by simp only; omega), by simp only; omega, hcue⟩ (by simp only; omega)) (by simp)
       | exact G.upto (hJ (M, j + 1, cb, gb) ⟨hrw2.more (by simp only; omega), by simp only; omega, hcub⟩ (by simp only; omega)) (by simp)
     ·try simp only [zqz] at h5
      refine G.exit rfl ?_
      apply G.seq
      apply G.seq
      apply G.fam (X := List (List Int) × Int × Int) (fun x => ⟨[(0, .ptr 0 0 0), (1, .int .i64 p), (2, .int .i64 q), (6, .ptr 1 0 0), (7, .sl 2 0 x.1.length)], [some (3, [[.row false 1 (bs.map bv), .int .i64 (x.2.1), .int .i64 (x.2.2)]]), some (3, [[.int .i64 0, .int .i64 0, .nils]]), some (1, x.1.map ivL)], 102⟩) (fun x => RW p q x.1 14 ∧ CuOk bs x.2.1)
      ·intro hfam20
       refine G.rgN 1 tab_ok (kof_nil _) (hk := ?_)
       refine G.cfX [0] en_l01Once (once_mx bs ci ch 6 hcu (by omega)) (h := fun y hy => ?_)
       obtain ⟨a, ca, ga⟩ := y
       simp only at hy
       have hcua := hy
       refine G.putX (h := ?_)
       refine G.rgC tab_ok (kof_nil _) (hk := ?_)
       refine G.iff (h1 := fun h7 => ?_) (h2 := fun h7 => ?_)
       ·try simp only [zqz] at h7
        refine G.rgN 2 tab_ok (kof_nil _) (hk := ?_)
        refine G.freeze 95 3 rfl (by simp [look]) ?_
        simp only [List.set_cons_succ, List.set_cons_zero, roLL, roL, ro]
        have hap : L.map ivL ++ [[.row false 1 [[.int .i64 (11)]]]] = (L ++ [[11]]).map ivL := by simp [ivL, iv]
        refine G.rgC tab_ok (kof_nil _) (hk := ?_)
        refine G.nmM [0, 1, 2, 6, 7] (hφ := fun m hm => first1 (show φ0.length = 1 from hφ0) hm rfl) (h := ?_)
        first
        | have hap2 := hap; exact G.toFam hfam20 (L ++ [[11]], ca, ga) ⟨(rw_add hrw row_halt).more (by omega), hcua⟩ (by simp)
        | exact G.toFam hfam20 (L, ca, ga) ⟨hrw.more (by omega), hcua⟩ (by simp)
       ·try simp only [zqz] at h7
        apply G.skip
        refine G.nmM [0, 1, 2, 6, 7] (hφ := fun m hm => first1 (show φ0.length = 1 from hφ0) hm rfl) (h := ?_)
        first
        | have hap2 := hap; exact G.toFam hfam20 (L ++ [[11]], ca, ga) ⟨(rw_add hrw row_halt).more (by omega), hcua⟩ (by simp)
        | exact G.toFam hfam20 (L, ca, ga) ⟨hrw.more (by omega), hcua⟩ (by simp)
      ·intro x hx
       clear hrw hcu hql hLl hq1 hq2
       obtain ⟨L, ci, ch⟩ := x
       simp only at hx ⊢
       obtain ⟨hrw, hcu⟩ := hx
       have hql : List.take L.length (L.map ivL) = L.map ivL := List.take_of_length_le (by simp)
       have hLl := hrw.len
       have hq1 : ((L.length + 1 : Nat) : Int) ≤ 4611686018427387904 := by omega
       have hq2 : (L.length + 1) * 24 ≤ 70368744177664 := by omega
       apply G.seq
       have e1 : q_l2Make [.int .i64 p, .int .i64 q, .row false 1 (L.map ivL)] = some (.agg [.int .i64 p, .int .i64 q, .row true 4 ((L.map pad4 ++ [(8, 0, 0, 0)]).map insv)]) := e_l2Make p q L (by omega) (fun x hx => (hrw.ok x hx).1)
       clear e_l2Make
       obtain ⟨PL, hPL⟩ : ∃ x, L.map pad4 ++ [((8, 0, 0, 0) : I4)] = x := ⟨_, rfl⟩
       have hPo : progOk p q PL = true := by rw [← hPL]; exact rw_prog hrw (by omega) ⟨hc3, hc4⟩ ⟨hc5, hc6⟩
       rw [hPL] at e1
       refine G.rg tab_ok ok_l2Program (hk := ?_)
       refine G.nmM [0, 101, 6] (hφ := fun m hm => first1 (show φ0.length = 1 from hφ0) hm rfl) (h := ?_)
       refine G.finMX (x := (PL, ci, ch)) (junk := [some (3, [[.int .i64 p, .int .i64 q, .sl 1 0 PL.length]])]) ⟨hPo, hcu⟩ tab_ok (hr := ?_) (hh := ?_) (hp := ?_) (hq := ?_) (hl := ?_)
       ·rfl
       ·rfl
       ·rfl
       ·show (refLL _ _ && (refLL _ _ && true)) = true
        rw [pureLL_ref (pureLL_insv _)]
        rfl
       ·rw [hφ0]; exact Nat.le_succ _
theorem byte_mx (bs : List Int) (i hh : Int) (hc : CuOk bs i) : MX Try.prog 153 (X := Int × Int × Int) [some (3, [[.row false 1 (bs.map bv), .int .i64 (i), .int .i64 (hh)]])] [.ptr 0 0 0] (fun x => 0 ≤ x.1 ∧ x.1 ≤ 255 ∧ CuOk bs x.2.1) (fun x => .int .i64 x.1) (fun x => [some (3, [[.row false 1 (bs.map bv), .int .i64 (x.2.1), .int .i64 (x.2.2)]])]) :=
 MC.ex (curB bs i hh) ⟨(curB_ok bs i hh).1, (curB_ok bs i hh).2, curB_cu hc hh⟩ (l01Byte_mc _ bs i hh rfl hc)
theorem l01BelowB_mx (h : Heap) (bs : List Int) (i : Int) (hh : Int) (n : Int) (hc1 : h = [some (3, [[.row false 1 (bs.map bv), .int .i64 (i), .int .i64 (hh)]])]) (hc2 : CuOk bs i) (hc3 : 256 < n) (hc4 : n ≤ 1000) : MX Try.prog 86 (X := Int × Int × Int) h [.ptr 0 0 0, .int .i64 n] (fun x => 0 ≤ x.1 ∧ x.1 < n ∧ CuOk bs x.2.1) (fun x => .int .i64 x.1) (fun x => [some (3, [[.row false 1 (bs.map bv), .int .i64 (x.2.1), .int .i64 (x.2.2)]])]) := by
 subst hc1
 have hn1 : ¬ n ≤ 0 := by omega
 have hn2 : ¬ n ≤ 256 := by omega
 have hn0 : ¬ n = 0 := by omega
 refine MX.of tab_ok Try.func86 rfl (Nat.le_of_ble_eq_true rfl) fun w0 S0 fs0 φ0 hφ0 hq0 => ?_
 change G _ _ ⟨[(0, .ptr 0 0 0), (1, .int .i64 n)], _, 37⟩
 apply G.seq
 refine G.rg tab_ok (kof_nil _) (hk := ?_)
 apply G.seq
 apply G.seq
 refine G.rg tab_ok (kof_nil _) (hk := ?_)
 refine G.iffF (h2 := ?_)
 apply G.skip
 apply G.seq
 apply G.seq
 refine G.rg tab_ok (kof_nil _) (hk := ?_)
 refine G.iffF (h2 := ?_)
 apply G.skip
 apply G.seq
 refine G.rgN 1 tab_ok (kof_nil _) (hk := ?_)
 refine G.cfX [0] en_l01Byte (byte_mx bs i hh hc2) (h := fun y hy => ?_)
 obtain ⟨a, ca, ga⟩ := y
 simp only at hy
 obtain ⟨ha0, ha1, hcua⟩ := hy
 refine G.putX (h := ?_)
 refine G.rgC tab_ok (kof_nil _) (hk := ?_)
 apply G.seq
 refine G.rgN 1 tab_ok (kof_nil _) (hk := ?_)
 refine G.cfX [0] en_l01Byte (byte_mx bs ca ga hcua) (h := fun y hy => ?_)
 obtain ⟨b, cb, gb⟩ := y
 simp only at hy
 obtain ⟨hb0, hb1, hcub⟩ := hy
 refine G.putX (h := ?_)
 refine G.rgC tab_ok (kof_nil _) (hk := ?_)
 apply G.seq
 refine G.rgN 1 tab_ok (kof_nil _) (hk := ?_)
 refine G.cfX [0] en_l01Byte (byte_mx bs cb gb hcub) (h := fun y hy => ?_)
 obtain ⟨c, cc, gc⟩ := y
 simp only at hy
 obtain ⟨hc0, hc1, hcuc⟩ := hy
 refine G.putX (h := ?_)
 refine G.rgC tab_ok (kof_nil _) (hk := ?_)
 apply G.seq
 refine G.rgN 1 tab_ok (kof_nil _) (hk := ?_)
 refine G.cfX [0] en_l01Byte (byte_mx bs cc gc hcuc) (h := fun y hy => ?_)
 obtain ⟨d, cd, gd⟩ := y
 simp only at hy
 obtain ⟨hd0, hd1, hcud⟩ := hy
 refine G.putX (h := ?_)
 refine G.rgC tab_ok (kof_nil _) (hk := ?_)
 apply G.seq
 have w1 : IntKind.i64.wrap (a * 16777216) = a * 16777216 := wrap64 (by omega) (by omega)
 have w2 : IntKind.i64.wrap (b * 65536) = b * 65536 := wrap64 (by omega) (by omega)
 have w3 : IntKind.i64.wrap (a * 16777216 + b * 65536) = a * 16777216 + b * 65536 := wrap64 (by omega) (by omega)
 have w4 : IntKind.i64.wrap (c * 256) = c * 256 := wrap64 (by omega) (by omega)
 have w5 : IntKind.i64.wrap (a * 16777216 + b * 65536 + c * 256) = a * 16777216 + b * 65536 + c * 256 := wrap64 (by omega) (by omega)
 have w6 : IntKind.i64.wrap (a * 16777216 + b * 65536 + c * 256 + d) = a * 16777216 + b * 65536 + c * 256 + d := wrap64 (by omega) (by omega)
 have hz0 : 0 ≤ (a * 16777216 + b * 65536 + c * 256 + d).tmod n := Int.tmod_nonneg n (by omega)
 have hz1 : (a * 16777216 + b * 65536 + c * 256 + d).tmod n < n := Int.tmod_lt_of_pos _ (by omega)
 have w7 : IntKind.i64.wrap ((a * 16777216 + b * 65536 + c * 256 + d).tmod n) = (a * 16777216 + b * 65536 + c * 256 + d).tmod n := wrap64 (by omega) (by omega)
 refine G.rg tab_ok (kof_nil _) (hk := ?_)
 refine G.finMX (x := ((a * 16777216 + b * 65536 + c * 256 + d).tmod n, cd, gd)) (junk := []) ⟨hz0, hz1, hcud⟩ tab_ok (hr := ?_) (hh := ?_) (hp := ?_) (hq := ?_) (hl := ?_)
 ·rfl
 ·rfl
 ·rfl
 ·rfl
 ·rw [hφ0]; exact Nat.le_refl _
theorem l01OnceB_mx (h : Heap) (bs : List Int) (i : Int) (hh : Int) (n : Int) (hc1 : h = [some (3, [[.row false 1 (bs.map bv), .int .i64 (i), .int .i64 (hh)]])]) (hc2 : CuOk bs i) (hc3 : 256 < n) (hc4 : n ≤ 1000) : MX Try.prog 139 (X := Bool × Int × Int) h [.ptr 0 0 0, .int .i64 n] (fun x => CuOk bs x.2.1) (fun x => .bool x.1) (fun x => [some (3, [[.row false 1 (bs.map bv), .int .i64 (x.2.1), .int .i64 (x.2.2)]])]) := by
 subst hc1
 refine MX.of tab_ok Try.func139 rfl (Nat.le_of_ble_eq_true rfl) fun w0 S0 fs0 φ0 hφ0 hq0 => ?_
 change G _ _ ⟨[(0, .ptr 0 0 0), (1, .int .i64 n)], _, 9⟩
 apply G.seq
 refine G.rg tab_ok (kof_nil _) (hk := ?_)
 apply G.seq
 refine G.rgN 2 tab_ok (kof_nil _) (hk := ?_)
 refine G.cfX [0] en_l01Below (l01BelowB_mx _ bs i hh n rfl hc2 hc3 hc4) (h := fun y hy => ?_)
 obtain ⟨a, ca, ga⟩ := y
 simp only at hy
 obtain ⟨ha0, ha1, hcua⟩ := hy
 refine G.putX (h := ?_)
 refine G.rgC tab_ok (kof_nil _) (hk := ?_)
 refine G.finMX (x := (a == 0, ca, ga)) (junk := []) hcua tab_ok (hr := ?_) (hh := ?_) (hp := ?_) (hq := ?_) (hl := ?_)
 ·rfl
 ·rfl
 ·rfl
 ·rfl
 ·rw [hφ0]; exact Nat.le_refl _
theorem onceG_mx (bs : List Int) (i hh n : Int) (hc : CuOk bs i) (h0 : 0 < n) (h1 : n ≤ 1000) : MX Try.prog 139 (X := Bool × Int × Int) [some (3, [[.row false 1 (bs.map bv), .int .i64 (i), .int .i64 (hh)]])] [.ptr 0 0 0, .int .i64 n] (fun x => CuOk bs x.2.1) (fun x => .bool x.1) (fun x => [some (3, [[.row false 1 (bs.map bv), .int .i64 (x.2.1), .int .i64 (x.2.2)]])]) := by
 by_cases h : n ≤ 256
 ·exact once_mx bs i hh n hc h
 ·exact l01OnceB_mx _ bs i hh n rfl hc (by omega) h1
theorem tok_mx (bs : List Int) (i hh m : Int) (hc : CuOk bs i) (h0 : 0 ≤ m) (h1 : m ≤ 255) : MX Try.prog 93 (X := List Int × Int × Int) [some (3, [[.row false 1 (bs.map bv), .int .i64 (i), .int .i64 (hh)]])] [.ptr 0 0 0, .int .i64 m] (fun x => x.1.length ≤ 255 ∧ CuOk bs x.2.1) (fun x => .sl 1 0 x.1.length) (fun x => [some (3, [[.row false 1 (bs.map bv), .int .i64 (x.2.1), .int .i64 (x.2.2)]]), some (1, x.1.map iv)]) :=
 MC.ex (tokS bs i hh m) ⟨tokS_len255 bs i hh h0 h1, tokS_cu hc hh m⟩ (l3Tokens_mc _ bs i hh m rfl hc h0 h1)
theorem l3Wire_mx (h : Heap) (bs : List Int) (i : Int) (hh : Int) (ps : List PG) (lp : Int) (hc1 : h = [some (3, [[.row false 1 (bs.map bv), .int .i64 (i), .int .i64 (hh)]])]) (hc2 : CuOk bs i) (hc3 : ps.length ≤ 8) (hc4 : ∀ x ∈ ps, progOk x.i x.o x.l = true) (hc5 : 0 < lp) (hc6 : lp ≤ 1000) : MX Try.prog 140 (X := List LK × Int × Int) h [.ptr 0 0 0, .row false 3 (ps.map pv), .int .i64 lp] (fun x => x.1.length ≤ 48 ∧ KS x.1 ∧ CuOk bs x.2.1) (fun x => .agg [.row false 3 (ps.map pv), .sl 1 0 x.1.length]) (fun x => [some (3, [[.row false 1 (bs.map bv), .int .i64 (x.2.1), .int .i64 (x.2.2)]]), some (5, x.1.map kv)]) := by
  subst hc1
  have hfe := fv_eq
  have hpf := pureLL_fv
  have hrf := roLL_fv
  have hcf := copyable_fv
  have hpb : ∀ j, j < ps.length → (0 ≤ (ps.getD j default).i ∧ (ps.getD j default).i ≤ 3) ∧ (0 ≤ (ps.getD j default).o ∧ (ps.getD j default).o ≤ 3) := fun j hj => by
    have h := hc4 _ (getD_mem0 hj)
    simp only [progOk, inR, Bool.and_eq_true, decide_eq_true_eq] at h
    omega
  refine MX.of tab_ok Try.func140 rfl (Nat.le_of_ble_eq_true rfl) fun w0 S0 fs0 φ0 hφ0 hq0 => ?_
  change G _ _ ⟨[(0, .ptr 0 0 0), (1, .row false 3 (ps.map pv)), (2, .int .i64 lp)], _, 146⟩
  apply G.seq
  refine G.rg tab_ok (kof_nil _) (hk := ?_)
  apply G.seq
  refine G.rg tab_ok (kof_nil _) (hk := ?_)
  apply G.seq
  refine G.rg tab_ok (kof_nil _) (hk := ?_)
  apply G.seq
  apply G.seq
  refine G.rg tab_ok (kof_nil _) (hk := ?_)
  apply G.block
  refine G.nmM [0, 1, 2, 6, 7, 8, 22, 23, 24] (hφ := fun m hm => first1 (show φ0.length = 1 from hφ0) hm rfl) (h := ?_)
  refine G.loopX (fun x : List (Int × Int) × Nat => ⟨[(0, .ptr 0 0 0), (1, .row false 3 (ps.map pv)), (2, .int .i64 lp), (6, .ptr 1 0 0), (7, .ptr 2 0 0), (8, .sl 3 0 x.1.length), (22, .row false 3 (ps.map pv)), (23, .int .i64 ps.length), (24, .int .i64 (x.2 : Nat))], [some (3, [[.row false 1 (bs.map bv), .int .i64 (i), .int .i64 (hh)]]), some (2, [[.nils, .nils]]), some (2, [[.row false 3 (ps.map pv), .nils]]), some (1, x.1.map fv)], 146⟩) (fun x => x.1.length ≤ 3 * x.2 ∧ x.2 ≤ ps.length) (fun x => ps.length - x.2) (([], 0)) (⟨by simp, by simp⟩) (rfl) ?_
  intro x hx J2 hJ2
  obtain ⟨F, j⟩ := x
  simp only at hx ⊢
  obtain ⟨hF, hj⟩ := hx
  have hw : IntKind.i64.wrap ((j : Int) + 1) = ((j + 1 : Nat) : Int) := by rw [wrap64 (by omega) (by omega)]; omega
  apply G.seq
  refine G.rg tab_ok (kof_nil _) (hk := ?_)
  apply G.seq
  refine G.iff (h1 := fun h1 => ?_) (h2 := fun h1 => ?_)
  · try simp only [zqz] at h1
    apply G.skip
    apply G.seq
    apply G.block
    apply G.seq
    have hjp : j < ps.length := by omega
    obtain ⟨⟨hpi0, hpi3⟩, hpo⟩ := hpb j hjp
    refine G.rg tab_ok (kof_nil _) (hk := ?_)
    apply G.seq
    refine G.rg tab_ok (kof_nil _) (hk := ?_)
    apply G.block
    refine G.nmM [0, 1, 2, 6, 7, 8, 9, 10, 11, 22, 23, 24] (hφ := fun m hm => first1 (show φ0.length = 1 from hφ0) hm rfl) (h := ?_)
    refine G.loopX (fun y : List (Int × Int) × Nat => ⟨[(0, .ptr 0 0 0), (1, .row false 3 (ps.map pv)), (2, .int .i64 lp), (6, .ptr 1 0 0), (7, .ptr 2 0 0), (8, .sl 3 0 y.1.length), (9, .int .i64 (j : Nat)), (10, .ptr 4 0 0), (11, .int .i64 (y.2 : Nat)), (22, .row false 3 (ps.map pv)), (23, .int .i64 ps.length), (24, .int .i64 (j : Nat))], [some (3, [[.row false 1 (bs.map bv), .int .i64 (i), .int .i64 (hh)]]), some (2, [[.nils, .nils]]), some (2, [[.row false 3 (ps.map pv), .nils]]), some (1, y.1.map fv), some (3, [pv (ps.getD j default)])], 146⟩) (fun y => y.1.length ≤ 3 * j + y.2 ∧ (y.2 : Int) ≤ (ps.getD j default).i) (fun y => (ps.getD j default).i.toNat - y.2) ((F, 0)) (⟨by simp only; omega, by simp only; omega⟩) (by simp [pv]) ?_
    intro y hy J hJ
    obtain ⟨F2, q⟩ := y
    simp only at hy ⊢
    obtain ⟨hF2, hq⟩ := hy
    have hwq : IntKind.i64.wrap ((q : Int) + 1) = ((q + 1 : Nat) : Int) := by rw [wrap64 (by omega) (by omega)]; omega
    have hb1 : ((F2.length + 1 : Nat) : Int) ≤ 4611686018427387904 := by omega
    have hb2 : (F2.length + 1) * 24 ≤ 70368744177664 := by omega
    have htF : List.take F2.length (F2.map fv) = F2.map fv := List.take_of_length_le (by simp)
    apply G.seq
    apply G.seq
    refine G.rg tab_ok (kof_nil _) (hk := ?_)
    refine G.iff (h1 := fun h2 => ?_) (h2 := fun h2 => ?_)
    · try simp only [zqz] at h2
      apply G.skip
      apply G.seq
      apply G.block
      refine G.rgN 4 tab_ok (kof_nil _) (hk := ?_)
      refine G.freeze 38 5 rfl (by simp [look]) ?_
      simp only [List.set_cons_succ, List.set_cons_zero, roLL, roL, ro, roLL_iv]
      have hap : F2.map fv ++ [[.row false 1 [[.int .i64 (j : Int)], [.int .i64 (q : Int)]]]] = (F2 ++ [((j : Int), (q : Int))]).map fv := by simp [fv]
      refine G.rgC tab_ok (kof_nil _) (hk := ?_)
      apply G.blk
      refine G.rg tab_ok (kof_nil _) (hk := ?_)
      refine G.nmM [0, 1, 2, 6, 7, 8, 9, 10, 11, 22, 23, 24] (hφ := fun m hm => first1 (show φ0.length = 1 from hφ0) hm rfl) (h := ?_)
      exact G.upto (hJ (F2 ++ [((j : Int), (q : Int))], q + 1) ⟨by simp; omega, by simp only; omega⟩ (by simp only; omega)) (by simp [pv])
    · try simp only [zqz] at h2
      refine G.exit rfl ?_
      apply G.blk
      refine G.rg tab_ok (kof_nil _) (hk := ?_)
      refine G.nmM [0, 1, 2, 6, 7, 8, 22, 23, 24] (hφ := fun m hm => first1 (show φ0.length = 1 from hφ0) hm rfl) (h := ?_)
      exact G.upto (hJ2 (F2, j + 1) ⟨by simp only; omega, by simp only; omega⟩ (by simp only; omega)) (by simp)
  · try simp only [zqz] at h1
    refine G.exit rfl ?_
    apply G.seq
    apply G.seq
    refine G.rg tab_ok (kof_nil _) (hk := ?_)
    apply G.block
    refine G.focusNil 2 0 1 5 rfl rfl rfl ?_
    simp only [withH, List.set_cons_succ, List.set_cons_zero, List.cons_append, List.nil_append, List.length_cons, List.length_nil]
    refine G.nmM [0, 2, 6, 7, 8, 42, 43, 44] (hφ := fun m hm => first1 (show φ0.length = 1 from hφ0) hm rfl) (h := ?_)
    refine G.loopX (fun x : List (Int × Int) × List LK × Int × Int × Nat => ⟨[(0, .ptr 0 0 0), (2, .int .i64 lp), (6, .ptr 1 0 0), (7, .ptr 2 0 0), (8, .sl 3 0 x.1.length), (42, .row false 3 (ps.map pv)), (43, .int .i64 ps.length), (44, .int .i64 (x.2.2.2.2 : Nat))], [some (3, [[.row false 1 (bs.map bv), .int .i64 (x.2.2.1), .int .i64 (x.2.2.2.1)]]), some (2, [[.nils, .nils]]), some (2, [[.row false 3 (ps.map pv), .sl 4 0 x.2.1.length]]), some (1, x.1.map fv), some (5, x.2.1.map kv)], 146⟩) (fun x => x.1.length ≤ 24 ∧ x.2.1.length ≤ 3 * x.2.2.2.2 ∧ KS x.2.1 ∧ CuOk bs x.2.2.1 ∧ x.2.2.2.2 ≤ ps.length) (fun x => ps.length - x.2.2.2.2) ((F, [], i, hh, 0)) (⟨by simp only; omega, by simp, ks_nil, hc2, by simp⟩) (rfl) ?_
    intro x hx J2 hJ2
    clear hF hj hw
    obtain ⟨F, ks, ci, ch, j⟩ := x
    simp only at hx ⊢
    obtain ⟨hF, hK, hks, hcu, hj⟩ := hx
    have hw : IntKind.i64.wrap ((j : Int) + 1) = ((j + 1 : Nat) : Int) := by rw [wrap64 (by omega) (by omega)]; omega
    apply G.seq
    refine G.rg tab_ok (kof_nil _) (hk := ?_)
    apply G.seq
    refine G.iff (h1 := fun h3 => ?_) (h2 := fun h3 => ?_)
    · try simp only [zqz] at h3
      apply G.skip
      apply G.seq
      apply G.block
      apply G.seq
      have hjp : j < ps.length := by omega
      obtain ⟨hpi, hpo0, hpo3⟩ := hpb j hjp
      refine G.rg tab_ok (kof_nil _) (hk := ?_)
      apply G.seq
      refine G.rg tab_ok (kof_nil _) (hk := ?_)
      apply G.block
      refine G.nmM [0, 2, 6, 7, 8, 12, 13, 14, 42, 43, 44] (hφ := fun m hm => first1 (show φ0.length = 1 from hφ0) hm rfl) (h := ?_)
      refine G.loopX (fun y : List (Int × Int) × List LK × Int × Int × Nat => ⟨[(0, .ptr 0 0 0), (2, .int .i64 lp), (6, .ptr 1 0 0), (7, .ptr 2 0 0), (8, .sl 3 0 y.1.length), (12, .int .i64 (j : Nat)), (13, .ptr 4 0 0), (14, .int .i64 (y.2.2.2.2 : Nat)), (42, .row false 3 (ps.map pv)), (43, .int .i64 ps.length), (44, .int .i64 (j : Nat))], [some (3, [[.row false 1 (bs.map bv), .int .i64 (y.2.2.1), .int .i64 (y.2.2.2.1)]]), some (2, [[.nils, .nils]]), some (2, [[.row false 3 (ps.map pv), .sl 5 0 y.2.1.length]]), some (1, y.1.map fv), some (3, [pv (ps.getD j default)]), some (5, y.2.1.map kv)], 146⟩) (fun y => y.1.length ≤ 24 ∧ y.2.1.length ≤ 3 * j + y.2.2.2.2 ∧ KS y.2.1 ∧ CuOk bs y.2.2.1 ∧ (y.2.2.2.2 : Int) ≤ (ps.getD j default).o) (fun y => (ps.getD j default).o.toNat - y.2.2.2.2) ((F, ks, ci, ch, 0)) (⟨hF, by simp only; omega, hks, hcu, by simp only; omega⟩) (by simp [pv]) ?_
      intro y hy J hJ
      obtain ⟨F, ks2, di, dh, q⟩ := y
      simp only at hy ⊢
      obtain ⟨hF2, hK2, hks2, hdu, hq⟩ := hy
      have hwq : IntKind.i64.wrap ((q : Int) + 1) = ((q + 1 : Nat) : Int) := by rw [wrap64 (by omega) (by omega)]; omega
      have hb1 : ((ks2.length + 1 : Nat) : Int) ≤ 4611686018427387904 := by omega
      have hb2 : (ks2.length + 1) * 56 ≤ 70368744177664 := by omega
      have htK : List.take ks2.length (ks2.map kv) = ks2.map kv := List.take_of_length_le (by simp)
      have htF : List.take F.length (F.map fv) = F.map fv := List.take_of_length_le (by simp)
      apply G.seq
      apply G.seq
      refine G.rg tab_ok (kof_nil _) (hk := ?_)
      refine G.iff (h1 := fun h4 => ?_) (h2 := fun h4 => ?_)
      · try simp only [zqz] at h4
        apply G.skip
        apply G.seq
        apply G.block
        apply G.seq
        refine G.rg tab_ok (kof_nil _) (hk := ?_)
        apply G.seq
        have hwF : IntKind.i64.wrap ((F.length : Int) + 1) = (F.length : Int) + 1 := wrap64 (by omega) (by omega)
        refine G.rgN 4 tab_ok (kof_nil _) (hk := ?_)
        refine G.cfX [0] en_l01Below (below_mx bs di dh (F.length + 1) hdu (by omega) (by omega)) (h := fun y hy => ?_)
        obtain ⟨a, ca, ga⟩ := y
        simp only at hy
        obtain ⟨ha0, ha1, hcua⟩ := hy
        refine G.putX (h := ?_)
        refine G.rgC tab_ok (kof_nil _) (hk := ?_)
        apply G.seq
        apply G.seq
        apply G.fam (X := LK × List (Int × Int) × Int × Int) (fun z => ⟨[(0, .ptr 0 0 0), (2, .int .i64 lp), (6, .ptr 1 0 0), (7, .ptr 2 0 0), (8, .sl 3 0 z.2.1.length), (12, .int .i64 (j : Nat)), (13, .ptr 4 0 0), (14, .int .i64 (q : Nat)), (15, .ptr 5 0 0), (42, .row false 3 (ps.map pv)), (43, .int .i64 ps.length), (44, .int .i64 (j : Nat))], [some (3, [[.row false 1 (bs.map bv), .int .i64 (z.2.2.1), .int .i64 (z.2.2.2)]]), some (2, [[.nils, .nils]]), some (2, [[.row false 3 (ps.map pv), .sl 6 0 ks2.length]]), some (1, z.2.1.map fv), some (3, [pv (ps.getD j default)]), some (5, [kv z.1]), some (5, ks2.map kv)], 146⟩) (fun z => z.1.tk.length ≤ 255 ∧ z.2.1.length ≤ 24 ∧ CuOk bs z.2.2.1)
        · intro hfam19
          rcases (show (a < (F.length : Int) ∧ (F.getD a.toNat default).1 > (j : Int)) ∨ (a < (F.length : Int) ∧ ¬ (F.getD a.toNat default).1 > (j : Int)) ∨ ¬ a < (F.length : Int) by omega) with ⟨d1, d2⟩ | ⟨d1, d2⟩ | d1
          · skip
            have ht0 : a.toNat < F.length := by omega
            have hgt : (F.map fv)[a.toNat]? = some (fv (F.getD a.toNat default)) := by rw [List.getElem?_map, getD_some ht0]; rfl
            have hrdf : rdCells (F.map fv) a.toNat 0 1 = some [.row false 1 [[.int .i64 (F.getD a.toNat default).1], [.int .i64 (F.getD a.toNat default).2]]] := by simp only [rdCells, hgt]; rfl
            have hat1 : a < (F.length : Int) := by omega
            have hat2 : a ≤ (F.length : Int) := by omega
            have hat3 : a + 1 ≤ (F.length : Int) := by omega
            have hat0 : 0 ≤ a + 1 := by omega
            have hat4 : a.toNat ≤ F.length := by omega
            have hwa : IntKind.i64.wrap (a + 1) = a + 1 := wrap64 (by omega) (by omega)
            have hsl1 : List.take a.toNat (F.map fv) = (F.take a.toNat).map fv := by rw [List.map_take]
            have hta : (a + 1).toNat = a.toNat + 1 := by omega
            have hsl2 : List.take (F.length - (a.toNat + 1)) (List.drop (a.toNat + 1) (F.map fv)) = (F.drop (a.toNat + 1)).map fv := by rw [← List.map_drop]; exact List.take_of_length_le (by simp)
            have hmn : min a.toNat F.length = a.toNat := by omega
            have hmm : min a.toNat a.toNat = a.toNat := Nat.min_self _
            have hsl7 : List.take a.toNat ((F.take a.toNat).map fv) = (F.take a.toNat).map fv := List.take_of_length_le (by simp; omega)
            have hsl4 : (F.take a.toNat).map fv ++ (F.drop (a.toNat + 1)).map fv = (F.take a.toNat ++ F.drop (a.toNat + 1)).map fv := by rw [List.map_append]
            have hsl5 : (F.take a.toNat ++ F.drop (a.toNat + 1)).length = a.toNat + (F.length - (a.toNat + 1)) := by rw [List.length_append, List.length_take, List.length_drop]; omega
            have hle5 : a.toNat + (F.length - (a.toNat + 1)) ≤ 24 := by omega
            have hbc1 : ((a.toNat : Nat) : Int) ≤ 4611686018427387904 := by omega
            have hbc2 : a.toNat * 24 ≤ 70368744177664 := by omega
            have hbc3 : ((a.toNat + (F.length - (a.toNat + 1)) : Nat) : Int) ≤ 4611686018427387904 := by omega
            have hbc4 : (a.toNat + (F.length - (a.toNat + 1))) * 24 ≤ 70368744177664 := by omega
            have hle6 : a.toNat + 1 + (F.length - (a.toNat + 1)) ≤ F.length := by omega
            have d3 : ¬ (F.getD a.toNat default).1 ≤ (j : Int) := by omega
            refine G.rgN 5 tab_ok (kof_nil _) (hk := ?_)
            refine G.rdC tab_ok (kof_nil _) (hk := ?_)
            refine G.iffT (h1 := ?_)
            apply G.seq
            refine G.fg [0, 2, 6, 7, 8, 12, 13, 14, 15, 16, 42, 43, 44, 107, 108, 109, 110, 111, 112, 113, 114, 115, 116] (hk := ?_)
            refine G.rg tab_ok (kof_nil _) (hk := ?_)
            apply G.seq
            refine G.rg tab_ok (kof_nil _) (hk := ?_)
            apply G.seq
            apply G.seq
            refine G.rg tab_ok (kof_nil _) (hk := ?_)
            refine G.iffF (h2 := ?_)
            apply G.skip
            apply G.joinR
            · intro hk
              refine G.drawL (c := ⟨Try.prog, tab, _, _, _, _, _⟩) mixed tab_ok (kof_nil _) 11 ?_ rfl
              refine AnyL.gg (n := 5) 6 [1, 2, 3, 5, 6, 7] (h := ?_)
              refine AnyL.fk2 (n := 4) 0 8 (k1 := ?_) (k2 := ?_)
              · skip
                refine AnyL.fk2 (n := 3) 4 8 (k1 := ?_) (k2 := ?_)
                · skip
                  refine AnyL.gg (n := 0) 3 [8, 9, 10] (h := ?_)
                  exact AnyL.lf [0, 2, 6, 7, 8, 12, 13, 14, 15, 42, 43, 44] (hk := hk)
                · skip
                  refine AnyL.gg (n := 0) 3 [4, 9, 10] (h := ?_)
                  exact AnyL.lf [0, 2, 6, 7, 8, 12, 13, 14, 15, 42, 43, 44] (hk := hk)
              · skip
                refine AnyL.gg (n := 0) 4 [0, 4, 9, 10] (h := ?_)
                exact AnyL.lf [0, 2, 6, 7, 8, 12, 13, 14, 15, 42, 43, 44] (hk := hk)
            first
            | (refine G.weakCell 6 0 4 (.row false 1 []) rfl rfl rfl (fun w S φ v f h => nil_ro h) ?_
               simp only [withH, List.set_cons_succ, List.set_cons_zero])
            | skip
            refine G.nmM [0, 2, 6, 7, 8, 12, 13, 14, 15, 42, 43, 44] (hφ := fun m hm => first1 (show φ0.length = 1 from hφ0) hm rfl) (h := ?_)
            first
            | (have hh1 := htk
               exact G.toFam hfam19 (⟨(j : Int), (q : Int), (F.getD a.toNat default).1, (F.getD a.toNat default).2, tk⟩, (F.take a.toNat ++ F.drop (a.toNat + 1)), ct, gt) ⟨htk, by simp only [hsl5]; omega, hcut⟩ (by simp [kv, pv, hmn]))
            | (have hh1 := d3
               have hh2 : ¬ (F.getD a.toNat default).1 ≤ (j : Int) := d3
               exact G.toFam hfam19 (⟨(j : Int), (q : Int), (F.getD a.toNat default).1, (F.getD a.toNat default).2, []⟩, (F.take a.toNat ++ F.drop (a.toNat + 1)), ca, ga) ⟨by simp, by simp only [hsl5]; omega, hcua⟩ (by simp [kv, pv, hmn]))
            | (have hh1 := hcub
               exact G.toFam hfam19 (⟨(j : Int), (q : Int), -1, 0, []⟩, F, cb, gb) ⟨by simp, by simp only; omega, hcub⟩ (by simp [kv, pv]))
            | (exact G.toFam hfam19 (⟨(j : Int), (q : Int), -1, 0, []⟩, F, ca, ga) ⟨by simp, by simp only; omega, hcua⟩ (by simp [kv, pv]))
          · skip
            have ht0 : a.toNat < F.length := by omega
            have hgt : (F.map fv)[a.toNat]? = some (fv (F.getD a.toNat default)) := by rw [List.getElem?_map, getD_some ht0]; rfl
            have hrdf : rdCells (F.map fv) a.toNat 0 1 = some [.row false 1 [[.int .i64 (F.getD a.toNat default).1], [.int .i64 (F.getD a.toNat default).2]]] := by simp only [rdCells, hgt]; rfl
            have hat1 : a < (F.length : Int) := by omega
            have hat2 : a ≤ (F.length : Int) := by omega
            have hat3 : a + 1 ≤ (F.length : Int) := by omega
            have hat0 : 0 ≤ a + 1 := by omega
            have hat4 : a.toNat ≤ F.length := by omega
            have hwa : IntKind.i64.wrap (a + 1) = a + 1 := wrap64 (by omega) (by omega)
            have hsl1 : List.take a.toNat (F.map fv) = (F.take a.toNat).map fv := by rw [List.map_take]
            have hta : (a + 1).toNat = a.toNat + 1 := by omega
            have hsl2 : List.take (F.length - (a.toNat + 1)) (List.drop (a.toNat + 1) (F.map fv)) = (F.drop (a.toNat + 1)).map fv := by rw [← List.map_drop]; exact List.take_of_length_le (by simp)
            have hmn : min a.toNat F.length = a.toNat := by omega
            have hmm : min a.toNat a.toNat = a.toNat := Nat.min_self _
            have hsl7 : List.take a.toNat ((F.take a.toNat).map fv) = (F.take a.toNat).map fv := List.take_of_length_le (by simp; omega)
            have hsl4 : (F.take a.toNat).map fv ++ (F.drop (a.toNat + 1)).map fv = (F.take a.toNat ++ F.drop (a.toNat + 1)).map fv := by rw [List.map_append]
            have hsl5 : (F.take a.toNat ++ F.drop (a.toNat + 1)).length = a.toNat + (F.length - (a.toNat + 1)) := by rw [List.length_append, List.length_take, List.length_drop]; omega
            have hle5 : a.toNat + (F.length - (a.toNat + 1)) ≤ 24 := by omega
            have hbc1 : ((a.toNat : Nat) : Int) ≤ 4611686018427387904 := by omega
            have hbc2 : a.toNat * 24 ≤ 70368744177664 := by omega
            have hbc3 : ((a.toNat + (F.length - (a.toNat + 1)) : Nat) : Int) ≤ 4611686018427387904 := by omega
            have hbc4 : (a.toNat + (F.length - (a.toNat + 1))) * 24 ≤ 70368744177664 := by omega
            have hle6 : a.toNat + 1 + (F.length - (a.toNat + 1)) ≤ F.length := by omega
            have d3 : (F.getD a.toNat default).1 ≤ (j : Int) := by omega
            refine G.rgN 5 tab_ok (kof_nil _) (hk := ?_)
            refine G.rdN 11 tab_ok (kof_nil _) (hk := ?_)
            refine G.want (by simp [wantedA, dstOf, look]) ?_
            refine G.cfX [0] en_l01Once (onceG_mx bs ca ga lp hcua hc5 hc6) (h := fun y hy => ?_)
            obtain ⟨b, cb, gb⟩ := y
            simp only at hy
            have hcub := hy
            refine G.putX (h := ?_)
            refine G.rdC tab_ok (kof_nil _) (hk := ?_)
            refine G.fg [0, 2, 6, 7, 8, 12, 13, 14, 15, 16, 42, 43, 44, 81, 107, 108, 109, 110, 111, 112, 113, 114, 115, 116] (hk := ?_)
            refine G.iff (h1 := fun h7 => ?_) (h2 := fun h7 => ?_)
            · try simp only [zqz] at h7
              apply G.seq
              refine G.rg tab_ok (kof_nil _) (hk := ?_)
              apply G.seq
              refine G.rg tab_ok (kof_nil _) (hk := ?_)
              apply G.seq
              apply G.seq
              refine G.rg tab_ok (kof_nil _) (hk := ?_)
              refine G.iffT (h1 := ?_)
              refine G.rgN 1 tab_ok (kof_nil _) (hk := ?_)
              refine G.cfX [0] en_l3Tokens (tok_mx bs cb gb 3 hcub (by omega) (by omega)) (h := fun y hy => ?_)
              obtain ⟨tk, ct, gt⟩ := y
              simp only at hy
              obtain ⟨htk, hcut⟩ := hy
              refine G.putX (h := ?_)
              refine G.freeze 105 7 rfl (by simp [look]) ?_
              simp only [List.set_cons_succ, List.set_cons_zero, roLL, roL, ro, roLL_iv]
              refine G.rgC tab_ok (kof_nil _) (hk := ?_)
              apply G.joinR
              · intro hk
                refine G.drawL (c := ⟨Try.prog, tab, _, _, _, _, _⟩) mixed tab_ok (kof_nil _) 11 ?_ rfl
                refine AnyL.gg (n := 5) 6 [1, 2, 3, 5, 6, 7] (h := ?_)
                refine AnyL.fk2 (n := 4) 0 8 (k1 := ?_) (k2 := ?_)
                · skip
                  refine AnyL.fk2 (n := 3) 4 8 (k1 := ?_) (k2 := ?_)
                  · skip
                    refine AnyL.gg (n := 0) 3 [8, 9, 10] (h := ?_)
                    exact AnyL.lf [0, 2, 6, 7, 8, 12, 13, 14, 15, 42, 43, 44] (hk := hk)
                  · skip
                    refine AnyL.gg (n := 0) 3 [4, 9, 10] (h := ?_)
                    exact AnyL.lf [0, 2, 6, 7, 8, 12, 13, 14, 15, 42, 43, 44] (hk := hk)
                · skip
                  refine AnyL.gg (n := 0) 4 [0, 4, 9, 10] (h := ?_)
                  exact AnyL.lf [0, 2, 6, 7, 8, 12, 13, 14, 15, 42, 43, 44] (hk := hk)
              first
              | (refine G.weakCell 6 0 4 (.row false 1 []) rfl rfl rfl (fun w S φ v f h => nil_ro h) ?_
                 simp only [withH, List.set_cons_succ, List.set_cons_zero])
              | skip
              refine G.nmM [0, 2, 6, 7, 8, 12, 13, 14, 15, 42, 43, 44] (hφ := fun m hm => first1 (show φ0.length = 1 from hφ0) hm rfl) (h := ?_)
              first
              | (have hh1 := htk
                 exact G.toFam hfam19 (⟨(j : Int), (q : Int), (F.getD a.toNat default).1, (F.getD a.toNat default).2, tk⟩, (F.take a.toNat ++ F.drop (a.toNat + 1)), ct, gt) ⟨htk, by simp only [hsl5]; omega, hcut⟩ (by simp [kv, pv, hmn]))
              | (have hh1 := d3
                 have hh2 : ¬ (F.getD a.toNat default).1 ≤ (j : Int) := d3
                 exact G.toFam hfam19 (⟨(j : Int), (q : Int), (F.getD a.toNat default).1, (F.getD a.toNat default).2, []⟩, (F.take a.toNat ++ F.drop (a.toNat + 1)), ca, ga) ⟨by simp, by simp only [hsl5]; omega, hcua⟩ (by simp [kv, pv, hmn]))
              | (have hh1 := hcub
                 exact G.toFam hfam19 (⟨(j : Int), (q : Int), -1, 0, []⟩, F, cb, gb) ⟨by simp, by simp only; omega, hcub⟩ (by simp [kv, pv]))
              | (exact G.toFam hfam19 (⟨(j : Int), (q : Int), -1, 0, []⟩, F, ca, ga) ⟨by simp, by simp only; omega, hcua⟩ (by simp [kv, pv]))
            · try simp only [zqz] at h7
              apply G.skip
              first
              | (refine G.weakCell 6 0 4 (.row false 1 []) rfl rfl rfl (fun w S φ v f h => nil_ro h) ?_
                 simp only [withH, List.set_cons_succ, List.set_cons_zero])
              | skip
              refine G.nmM [0, 2, 6, 7, 8, 12, 13, 14, 15, 42, 43, 44] (hφ := fun m hm => first1 (show φ0.length = 1 from hφ0) hm rfl) (h := ?_)
              first
              | (have hh1 := htk
                 exact G.toFam hfam19 (⟨(j : Int), (q : Int), (F.getD a.toNat default).1, (F.getD a.toNat default).2, tk⟩, (F.take a.toNat ++ F.drop (a.toNat + 1)), ct, gt) ⟨htk, by simp only [hsl5]; omega, hcut⟩ (by simp [kv, pv, hmn]))
              | (have hh1 := d3
                 have hh2 : ¬ (F.getD a.toNat default).1 ≤ (j : Int) := d3
                 exact G.toFam hfam19 (⟨(j : Int), (q : Int), (F.getD a.toNat default).1, (F.getD a.toNat default).2, []⟩, (F.take a.toNat ++ F.drop (a.toNat + 1)), ca, ga) ⟨by simp, by simp only [hsl5]; omega, hcua⟩ (by simp [kv, pv, hmn]))
              | (have hh1 := hcub
                 exact G.toFam hfam19 (⟨(j : Int), (q : Int), -1, 0, []⟩, F, cb, gb) ⟨by simp, by simp only; omega, hcub⟩ (by simp [kv, pv]))
              | (exact G.toFam hfam19 (⟨(j : Int), (q : Int), -1, 0, []⟩, F, ca, ga) ⟨by simp, by simp only; omega, hcua⟩ (by simp [kv, pv]))
          · skip
            refine G.rgN 5 tab_ok (kof_nil _) (hk := ?_)
            refine G.rdC tab_ok (kof_nil _) (hk := ?_)
            refine G.iffF (h2 := ?_)
            apply G.skip
            first
            | (refine G.weakCell 6 0 4 (.row false 1 []) rfl rfl rfl (fun w S φ v f h => nil_ro h) ?_
               simp only [withH, List.set_cons_succ, List.set_cons_zero])
            | skip
            refine G.nmM [0, 2, 6, 7, 8, 12, 13, 14, 15, 42, 43, 44] (hφ := fun m hm => first1 (show φ0.length = 1 from hφ0) hm rfl) (h := ?_)
            first
            | (have hh1 := htk
               exact G.toFam hfam19 (⟨(j : Int), (q : Int), (F.getD a.toNat default).1, (F.getD a.toNat default).2, tk⟩, (F.take a.toNat ++ F.drop (a.toNat + 1)), ct, gt) ⟨htk, by simp only [hsl5]; omega, hcut⟩ (by simp [kv, pv, hmn]))
            | (have hh1 := d3
               have hh2 : ¬ (F.getD a.toNat default).1 ≤ (j : Int) := d3
               exact G.toFam hfam19 (⟨(j : Int), (q : Int), (F.getD a.toNat default).1, (F.getD a.toNat default).2, []⟩, (F.take a.toNat ++ F.drop (a.toNat + 1)), ca, ga) ⟨by simp, by simp only [hsl5]; omega, hcua⟩ (by simp [kv, pv, hmn]))
            | (have hh1 := hcub
               exact G.toFam hfam19 (⟨(j : Int), (q : Int), -1, 0, []⟩, F, cb, gb) ⟨by simp, by simp only; omega, hcub⟩ (by simp [kv, pv]))
            | (exact G.toFam hfam19 (⟨(j : Int), (q : Int), -1, 0, []⟩, F, ca, ga) ⟨by simp, by simp only; omega, hcua⟩ (by simp [kv, pv]))
        · intro z hz
          clear hF hcu ha0 ha1 hcua htF hF2 hwF
          obtain ⟨x, F, ci, ch⟩ := z
          simp only at hz ⊢
          obtain ⟨hxt, hF, hcu⟩ := hz
          have hkp : ks2.map kv ++ [[.int .i64 x.fr, .int .i64 x.ou, .int .i64 x.to, .int .i64 x.ip, .row false 1 (x.tk.map iv)]] = (ks2 ++ [x]).map kv := by simp [kv]
          simp only [kv_eq]
          refine G.rg tab_ok (kof_nil _) (hk := ?_)
          apply G.blk
          refine G.rg tab_ok (kof_nil _) (hk := ?_)
          refine G.nmM [0, 2, 6, 7, 8, 12, 13, 14, 42, 43, 44] (hφ := fun m hm => first1 (show φ0.length = 1 from hφ0) hm rfl) (h := ?_)
          exact G.upto (hJ (F, ks2 ++ [x], ci, ch, q + 1) ⟨hF, by simp; omega, ks_add hks2 hxt, hcu, by simp only; omega⟩ (by simp only; omega)) (by simp [pv])
      · try simp only [zqz] at h4
        refine G.exit rfl ?_
        apply G.blk
        refine G.rg tab_ok (kof_nil _) (hk := ?_)
        refine G.nmM [0, 2, 6, 7, 8, 42, 43, 44] (hφ := fun m hm => first1 (show φ0.length = 1 from hφ0) hm rfl) (h := ?_)
        exact G.upto (hJ2 (F, ks2, di, dh, j + 1) ⟨hF2, by simp only; omega, hks2, hdu, by simp only; omega⟩ (by simp only; omega)) (by simp)
    · try simp only [zqz] at h3
      refine G.exit rfl ?_
      apply G.seq
      apply G.seq
      refine G.rg tab_ok (kof_nil _) (hk := ?_)
      apply G.block
      refine G.nmM [0, 6, 7, 124, 125, 126] (hφ := fun m hm => first1 (show φ0.length = 1 from hφ0) hm rfl) (h := ?_)
      refine G.loopX (fun x : List LK × Int × Int × Nat => ⟨[(0, .ptr 0 0 0), (6, .ptr 1 0 0), (7, .ptr 2 0 0), (124, .sl 3 0 F.length), (125, .int .i64 F.length), (126, .int .i64 (x.2.2.2 : Nat))], [some (3, [[.row false 1 (bs.map bv), .int .i64 (x.2.1), .int .i64 (x.2.2.1)]]), some (2, [[.nils, .nils]]), some (2, [[.row false 3 (ps.map pv), .sl 4 0 x.1.length]]), some (1, F.map fv), some (5, x.1.map kv)], 146⟩) (fun x => x.1.length ≤ 24 + x.2.2.2 ∧ KS x.1 ∧ CuOk bs x.2.1 ∧ x.2.2.2 ≤ F.length) (fun x => F.length - x.2.2.2) ((ks, ci, ch, 0)) (⟨by simp only; omega, hks, hcu, by simp⟩) (rfl) ?_
      intro x hx J hJ
      clear hK hks hcu hj hw
      obtain ⟨ks, ci, ch, j⟩ := x
      simp only at hx ⊢
      obtain ⟨hK, hks, hcu, hj⟩ := hx
      have hw : IntKind.i64.wrap ((j : Int) + 1) = ((j + 1 : Nat) : Int) := by rw [wrap64 (by omega) (by omega)]; omega
      have hb1 : ((ks.length + 1 : Nat) : Int) ≤ 4611686018427387904 := by omega
      have hb2 : (ks.length + 1) * 56 ≤ 70368744177664 := by omega
      have htK : List.take ks.length (ks.map kv) = ks.map kv := List.take_of_length_le (by simp)
      apply G.seq
      refine G.rg tab_ok (kof_nil _) (hk := ?_)
      apply G.seq
      refine G.iff (h1 := fun h10 => ?_) (h2 := fun h10 => ?_)
      · try simp only [zqz] at h10
        apply G.skip
        apply G.seq
        apply G.block
        apply G.seq
        have hjf : j < F.length := by omega
        have hgt : (F.map fv)[j]? = some (fv (F.getD j default)) := by rw [List.getElem?_map, getD_some hjf]; rfl
        have hrdf : rdCells (F.map fv) j 0 1 = some [.row false 1 [[.int .i64 (F.getD j default).1], [.int .i64 (F.getD j default).2]]] := by simp only [rdCells, hgt]; rfl
        refine G.rg tab_ok (kof_nil _) (hk := ?_)
        have hmc := l3Tokens_mc _ bs ci ch 8 rfl hcu (by omega) (by omega)
        have htk := tokS_len255 bs ci ch (m := 8) (by omega) (by omega)
        have hcu2 := tokS_cu hcu ch 8
        obtain ⟨T, hT⟩ : ∃ x, tokS bs ci ch 8 = x := ⟨_, rfl⟩
        rw [hT] at hmc htk hcu2
        obtain ⟨tk, c2, g2⟩ := T
        simp only at hmc htk hcu2
        clear hT
        refine G.drM 14 9 [0, 1, 2, 3, 4, 5, 6, 7, 8] [0] en_l3Tokens (hmc) mixed tab_ok (kof_nil _) (h := ?_)
        refine AnyL.gu (n := 0) 14 [0, 1, 2, 3, 4, 5, 6, 7, 8, 10, 11, 12, 13, 14] (h := ?_)
        refine AnyL.lf [0, 6, 7, 124, 125, 126] (hk := ?_)
        refine G.lastRo 7 4 5 (f := kv) (l := ks) (tk := tk) ⟨-1, 0, (F.getD j default).1, (F.getD j default).2, tk⟩ rfl rfl rfl (by decide) rfl ?_
        simp only [withH, List.set_cons_succ, List.set_cons_zero]
        apply G.blk
        refine G.rg tab_ok (kof_nil _) (hk := ?_)
        refine G.nmM [0, 6, 7, 124, 125, 126] (hφ := fun m hm => first1 (show φ0.length = 1 from hφ0) hm rfl) (h := ?_)
        exact G.upto (hJ (ks ++ [⟨-1, 0, (F.getD j default).1, (F.getD j default).2, tk⟩], c2, g2, j + 1) ⟨by simp; omega, ks_add hks htk, hcu2, by simp only; omega⟩ (by simp only; omega)) (by simp)
      · try simp only [zqz] at h10
        refine G.exit rfl ?_
        apply G.seq
        refine G.rg tab_ok (kof_nil _) (hk := ?_)
        refine G.nmM [0, 145, 6, 7] (hφ := fun m hm => first1 (show φ0.length = 1 from hφ0) hm rfl) (h := ?_)
        refine G.finMX (x := (ks, ci, ch)) (junk := [some (2, [[.row false 3 (ps.map pv), .sl 1 0 ks.length]]), some (2, [[.row false 3 (ps.map pv), .sl 1 0 ks.length]])]) ⟨by simp only; omega, hks, hcu⟩ tab_ok (hr := ?_) (hh := ?_) (hp := ?_) (hq := ?_) (hl := ?_)
        · rfl
        · rfl
        · rfl
        · show (refLL _ _ && (refLL _ _ && true)) = true
          rw [pureLL_ref (pureLL_kv _)]
          rfl
        · rw [hφ0]; exact Nat.le_succ _
theorem l01Pick_mx (h : Heap) (bs : List Int) (i : Int) (hh : Int) (l : List ByteArray) (hc1 : h = [some (3, [[.row false 1 (bs.map bv), .int .i64 (i), .int .i64 (hh)]]), some (1, l.map sv)]) (hc2 : CuOk bs i) (hc3 : 0 < l.length) (hc4 : l.length ≤ 256) : MX Try.prog 138 (X := ByteArray × Int × Int) h [.ptr 0 0 0, .sl 1 0 l.length] (fun x => x.1 ∈ l ∧ CuOk bs x.2.1) (fun x => .str x.1) (fun x => [some (3, [[.row false 1 (bs.map bv), .int .i64 (x.2.1), .int .i64 (x.2.2)]]), some (1, l.map sv)]) := by
 subst hc1
 have hsp := pureLL_sv
 have hse := sv_eq
 refine MX.of tab_ok Try.func138 rfl (Nat.le_of_ble_eq_true rfl) fun w0 S0 fs0 φ0 hφ0 hq0 => ?_
 change G _ _ ⟨[(0, .ptr 0 0 0), (1, .sl 1 0 l.length)], _, 12⟩
 apply G.seq
 refine G.rg tab_ok (kof_nil _) (hk := ?_)
 apply G.seq
 refine G.rgN 4 tab_ok (kof_nil _) (hk := ?_)
 refine G.cfX [0] en_l01Below (below_mx bs i hh l.length hc2 (by omega) (by omega)) (h := fun y hy => ?_)
 obtain ⟨a, ca, ga⟩ := y
 simp only at hy
 obtain ⟨ha0, ha1, hcua⟩ := hy
 refine G.putX (h := ?_)
 have hal : a.toNat < l.length := by omega
 have hrds : rdCells (l.map sv) a.toNat 0 1 = some [.str (l.getD a.toNat default)] := by simp only [rdCells, List.getElem?_map, getD_some hal]; rfl
 refine G.rgC tab_ok (kof_nil _) (hk := ?_)
 refine G.finMX (x := (l.getD a.toNat default, ca, ga)) (junk := []) ⟨getD_mem0 hal, hcua⟩ tab_ok (hr := ?_) (hh := ?_) (hp := ?_) (hq := ?_) (hl := ?_)
 ·rfl
 ·rfl
 ·rfl
 ·show (refLL _ _ && (refLL _ _ && true)) = true
  rw [pureLL_ref (pureLL_sv _)]
  rfl
 ·rw [hφ0]; exact Nat.le_refl _
theorem ok_l3Network : Kn.ok Try.prog (kof [(137, q_specSample), (72, q_specIsNetwork)]) := kof_cons k_specSample (kof_cons k_specIsNetwork ((kof_nil _)))
def nmS : List ByteArray := [(ByteArray.mk #[116, 104, 114, 111, 117, 103, 104]), (ByteArray.mk #[99, 111, 112, 121]), (ByteArray.mk #[115, 105, 110, 107]), (ByteArray.mk #[97, 100, 100]), (ByteArray.mk #[97, 108, 116, 101, 114, 110, 97, 116, 101]), (ByteArray.mk #[115, 112, 108, 105, 116]), (ByteArray.mk #[115, 117, 109, 115]), (ByteArray.mk #[115, 116, 101, 112, 115]), (ByteArray.mk #[116, 119, 105, 99, 101]), (ByteArray.mk #[112, 105, 99, 107])]
theorem nmS_ok {s : ByteArray} (h : s ∈ nmS) : progOk (sampleP s).1 (sampleP s).2.1 (sampleP s).2.2 = true := by
 simp only [nmS, List.mem_cons, List.not_mem_nil, or_false] at h
 rcases h with rfl | rfl | rfl | rfl | rfl | rfl | rfl | rfl | rfl | rfl <;> decide +kernel
theorem en_l01Pick : Enters Try.prog 138 := enters_of Try.func138 rfl rfl
theorem en_l2Program : Enters Try.prog 92 := enters_of Try.func92 rfl rfl
theorem en_l3Wire : Enters Try.prog 140 := enters_of Try.func140 rfl rfl
theorem l3Network_mx (h : Heap) (bs : List Int) (i : Int) (hh : Int) (m : Int) (lp : Int) (hc1 : h = [some (3, [[.row false 1 (bs.map bv), .int .i64 (i), .int .i64 (hh)]])]) (hc2 : CuOk bs i) (hc3 : 0 ≤ m) (hc4 : m ≤ 8) (hc5 : 0 < lp) (hc6 : lp ≤ 1000) : MX Try.prog 63 (X := List PG × List LK × Int × Int) h [.ptr 0 0 0, .int .i64 m, .int .i64 lp] (fun x => (netOk x.1 x.2.1 = true ∧ PO x.1 ∧ KS x.2.1 ∧ (x.1.length : Int) ≤ m) ∧ CuOk bs x.2.2.1) (fun x => .agg [.row false 3 (x.1.map pv), .sl 1 0 x.2.1.length]) (fun x => [some (3, [[.row false 1 (bs.map bv), .int .i64 (x.2.2.1), .int .i64 (x.2.2.2)]]), some (5, x.2.1.map kv)]) := by
  have e_specSample := e_specSample
  have e_specIsNetwork := e_specIsNetwork
  subst hc1
  have hw0 : IntKind.i64.wrap (m + 1) = m + 1 := wrap64 (by omega) (by omega)
  have hsp := pureLL_sv
  have hpp := pureLL_pv
  have hrp := roLL_pv
  have hnm : List.map sv nmS = [[.str (ByteArray.mk #[116, 104, 114, 111, 117, 103, 104])], [.str (ByteArray.mk #[99, 111, 112, 121])], [.str (ByteArray.mk #[115, 105, 110, 107])], [.str (ByteArray.mk #[97, 100, 100])], [.str (ByteArray.mk #[97, 108, 116, 101, 114, 110, 97, 116, 101])], [.str (ByteArray.mk #[115, 112, 108, 105, 116])], [.str (ByteArray.mk #[115, 117, 109, 115])], [.str (ByteArray.mk #[115, 116, 101, 112, 115])], [.str (ByteArray.mk #[116, 119, 105, 99, 101])], [.str (ByteArray.mk #[112, 105, 99, 107])]] := rfl
  have hnl : nmS.length = 10 := rfl
  refine MX.of tab_ok Try.func63 rfl (Nat.le_of_ble_eq_true rfl) fun w0 S0 fs0 φ0 hφ0 hq0 => ?_
  change G _ _ ⟨[(0, .ptr 0 0 0), (1, .int .i64 m), (2, .int .i64 lp)], _, 46⟩
  apply G.seq
  refine G.rg tab_ok ok_l3Network (hk := ?_)
  apply G.seq
  refine G.rg tab_ok ok_l3Network (hk := ?_)
  apply G.seq
  apply G.seq
  refine G.rgN 3 tab_ok (kof_nil _) (hk := ?_)
  refine G.cfX [0] en_l01Below (below_mx bs i hh (m + 1) hc2 (by omega) (by omega)) (h := fun y hy => ?_)
  obtain ⟨a, ca, ga⟩ := y
  simp only at hy
  obtain ⟨ha0, ha1, hcua⟩ := hy
  refine G.putX (h := ?_)
  refine G.rgC tab_ok (kof_nil _) (hk := ?_)
  apply G.block
  refine G.nmM [0, 2, 6, 7, 8] (hφ := fun m hm => first1 (show φ0.length = 1 from hφ0) hm rfl) (h := ?_)
  refine G.loopX (fun x : List PG × Int × Int × Int => ⟨[(0, .ptr 0 0 0), (2, .int .i64 lp), (6, .ptr 1 0 0), (7, .sl 2 0 x.1.length), (8, .int .i64 x.2.1)], [some (3, [[.row false 1 (bs.map bv), .int .i64 (x.2.2.1), .int .i64 (x.2.2.2)]]), some (2, [[.nils, .nils]]), some (3, x.1.map pv)], 46⟩) (fun x => (x.1.length : Int) + x.2.1 ≤ m ∧ 0 ≤ x.2.1 ∧ PO x.1 ∧ CuOk bs x.2.2.1) (fun x => x.2.1.toNat) (([], a, ca, ga)) (⟨by simp only [List.length_nil]; omega, ha0, po_nil, hcua⟩) (rfl) ?_
  intro x hx J hJ
  clear ha0 ha1 hcua
  obtain ⟨ps, z, ci, ch⟩ := x
  simp only at hx ⊢
  obtain ⟨hpm, hz, hpo, hcu⟩ := hx
  have hwz : IntKind.i64.wrap (z - 1) = z - 1 := wrap64 (by omega) (by omega)
  have hpl : ps.length ≤ 8 := by omega
  have hb1 : ((ps.length + 1 : Nat) : Int) ≤ 4611686018427387904 := by omega
  have hb2 : (ps.length + 1) * 40 ≤ 70368744177664 := by omega
  have htp : List.take ps.length (ps.map pv) = ps.map pv := List.take_of_length_le (by simp)
  apply G.seq
  apply G.seq
  refine G.rg tab_ok ok_l3Network (hk := ?_)
  refine G.iff (h1 := fun h1 => ?_) (h2 := fun h1 => ?_)
  · try simp only [zqz] at h1
    apply G.skip
    apply G.seq
    apply G.block
    apply G.seq
    refine G.rgN 2 tab_ok (kof_nil _) (hk := ?_)
    refine G.cfX [0, 3] en_l01Pick (l01Pick_mx _ bs ci ch nmS rfl hcu (by decide) (by decide)) (h := fun y hy => ?_)
    obtain ⟨s, c1, g1⟩ := y
    simp only at hy
    obtain ⟨hs, hcu1⟩ := hy
    refine G.putX (h := ?_)
    have e_s := e_specSample s
    clear e_specSample
    have hso := nmS_ok hs
    obtain ⟨S, hS⟩ : ∃ x, sampleP s = x := ⟨_, rfl⟩
    rw [hS] at hso e_s
    clear hS
    refine G.rgC tab_ok ok_l3Network (hk := ?_)
    apply G.seq
    apply G.seq
    apply G.fam (X := PG × Int × Int) (fun y => ⟨[(0, .ptr 0 0 0), (2, .int .i64 lp), (6, .ptr 1 0 0), (7, .sl 2 0 ps.length), (8, .int .i64 z), (9, .ptr 3 0 0)], [some (3, [[.row false 1 (bs.map bv), .int .i64 (y.2.1), .int .i64 (y.2.2)]]), some (2, [[.nils, .nils]]), some (3, ps.map pv), some (3, [pv y.1])], 46⟩) (fun y => progOk y.1.i y.1.o y.1.l = true ∧ CuOk bs y.2.1)
    · intro hfam6
      refine G.rgN 1 tab_ok (kof_nil _) (hk := ?_)
      refine G.cfX [0] en_l01Once (once_mx bs c1 g1 3 hcu1 (by omega)) (h := fun y hy => ?_)
      obtain ⟨b, cb, gb⟩ := y
      simp only at hy
      have hcub := hy
      refine G.putX (h := ?_)
      refine G.rgC tab_ok (kof_nil _) (hk := ?_)
      refine G.fg [0, 2, 6, 7, 8, 9, 25] (hk := ?_)
      refine G.iff (h1 := fun h2 => ?_) (h2 := fun h2 => ?_)
      · try simp only [zqz] at h2
        refine G.rgN 2 tab_ok (kof_nil _) (hk := ?_)
        refine G.cfX [0] en_l01Below (below_mx bs cb gb 2 hcub (by omega) (by omega)) (h := fun y hy => ?_)
        obtain ⟨d, cd, gd⟩ := y
        simp only at hy
        obtain ⟨hd0, hd1, hcud⟩ := hy
        refine G.putX (h := ?_)
        have hwd : IntKind.i64.wrap (1 + d) = 1 + d := wrap64 (by omega) (by omega)
        refine G.rgM 2 tab_ok (kof_nil _) (hk := ?_)
        refine G.cfX [0] en_l01Below (below_mx bs cd gd 3 hcud (by omega) (by omega)) (h := fun y hy => ?_)
        obtain ⟨e, ce, ge⟩ := y
        simp only at hy
        obtain ⟨he0, he1, hcue⟩ := hy
        refine G.putX (h := ?_)
        refine G.cfX [0] en_l2Program (l2Program_mx _ bs ce ge (1 + d) e rfl hcue (by omega) (by omega) (by omega) (by omega)) (h := fun y hy => ?_)
        obtain ⟨PL, cp, gp⟩ := y
        simp only at hy
        obtain ⟨hPo, hcup⟩ := hy
        refine G.putX (h := ?_)
        refine G.rgC tab_ok (kof_nil _) (hk := ?_)
        first
        | (refine G.cellRo 5 0 2 6 rfl rfl rfl rfl (by simp) (by decide) (pureLL_insv _) (roLL_insv _) ?_
           simp only [withH, List.set_cons_succ, List.set_cons_zero])
        | (refine G.cellRo 5 0 2 4 rfl rfl rfl rfl (by simp) (by decide) (pureLL_insv _) (roLL_insv _) ?_
           simp only [withH, List.set_cons_succ, List.set_cons_zero])
        refine G.nmM [0, 2, 6, 7, 8, 9] (hφ := fun m hm => first1 (show φ0.length = 1 from hφ0) hm rfl) (h := ?_)
        first
        | (have hh1 := hPo
           exact G.toFam hfam6 (⟨1 + d, e, PL⟩, cp, gp) ⟨hPo, hcup⟩ (by simp [pv]))
        | exact G.toFam hfam6 (⟨S.1, S.2.1, S.2.2⟩, cb, gb) ⟨hso, hcub⟩ (by simp [pv])
      · try simp only [zqz] at h2
        apply G.skip
        first
        | (refine G.cellRo 5 0 2 6 rfl rfl rfl rfl (by simp) (by decide) (pureLL_insv _) (roLL_insv _) ?_
           simp only [withH, List.set_cons_succ, List.set_cons_zero])
        | (refine G.cellRo 5 0 2 4 rfl rfl rfl rfl (by simp) (by decide) (pureLL_insv _) (roLL_insv _) ?_
           simp only [withH, List.set_cons_succ, List.set_cons_zero])
        refine G.nmM [0, 2, 6, 7, 8, 9] (hφ := fun m hm => first1 (show φ0.length = 1 from hφ0) hm rfl) (h := ?_)
        first
        | (have hh1 := hPo
           exact G.toFam hfam6 (⟨1 + d, e, PL⟩, cp, gp) ⟨hPo, hcup⟩ (by simp [pv]))
        | exact G.toFam hfam6 (⟨S.1, S.2.1, S.2.2⟩, cb, gb) ⟨hso, hcub⟩ (by simp [pv])
    · intro y hy
      obtain ⟨x, ci, ch⟩ := y
      simp only at hy ⊢
      obtain ⟨hxo, hcu⟩ := hy
      have hap : ps.map pv ++ [[.int .i64 x.i, .int .i64 x.o, .row false 4 (x.l.map insv)]] = (ps ++ [x]).map pv := by simp [pv]
      simp only [pv_eq]
      refine G.rg tab_ok ok_l3Network (hk := ?_)
      apply G.blk
      refine G.rg tab_ok ok_l3Network (hk := ?_)
      refine G.nmM [0, 2, 6, 7, 8] (hφ := fun m hm => first1 (show φ0.length = 1 from hφ0) hm rfl) (h := ?_)
      exact G.upto (hJ (ps ++ [x], z - 1, ci, ch) ⟨by simp only [List.length_append, List.length_singleton]; omega, by simp only; omega, po_add hpo hxo, hcu⟩ (by simp only; omega)) (by simp)
  · try simp only [zqz] at h1
    refine G.exit rfl ?_
    apply G.seq
    refine G.freeze 7 2 rfl (by simp [look]) ?_
    simp only [List.set_cons_succ, List.set_cons_zero, hrp]
    have hpl : ps.length ≤ 8 := by omega
    refine G.rgN 3 tab_ok (kof_nil _) (hk := ?_)
    refine G.cfX [0] en_l3Wire (l3Wire_mx _ bs ci ch ps lp rfl hcu hpl hpo hc5 hc6) (h := fun y hy => ?_)
    obtain ⟨ks, c2, g2⟩ := y
    simp only at hy
    obtain ⟨hk48, hks, hcu2⟩ := hy
    refine G.putX (h := ?_)
    refine G.rgC tab_ok (kof_nil _) (hk := ?_)
    apply G.seq
    apply G.seq
    have hnw := po_nw hpo
    have hkw := ks_kw hks
    have hpq : ps.length < 3518437208781 := by omega
    have hkq : ks.length < 2513169434844 := by omega
    have htk : List.take ks.length (ks.map kv) = ks.map kv := List.take_of_length_le (by simp)
    refine G.rg tab_ok ok_l3Network (hk := ?_)
    refine G.fg [6, 10, 43] (hk := ?_)
    refine G.iff (h1 := fun h3 => ?_) (h2 := fun h3 => ?_)
    · try simp only [zqz] at h3
      apply G.seq
      refine G.rg tab_ok ok_l3Network (hk := ?_)
      refine G.weakCell 1 0 0 (.row false 3 []) rfl rfl rfl (fun w S φ v f h => nil_ro h) ?_
      simp only [withH, List.set_cons_succ, List.set_cons_zero]
      refine G.focusNil 1 0 1 5 rfl rfl rfl ?_
      simp only [withH, List.set_cons_succ, List.set_cons_zero, List.cons_append, List.nil_append, List.length_cons, List.length_nil]
      refine G.permM [0, 6] [0, 5, 1] (by simp) (fun m hm => first1 (show φ0.length = 1 from hφ0) hm rfl) rfl ?_
      refine G.finMX (x := ([], [], c2, g2)) (junk := [some (2, [[.row false 3 [], .sl 1 0 0]])]) ⟨⟨rfl, po_nil, ks_nil, by simp only [List.length_nil]; omega⟩, hcu2⟩ tab_ok (hr := ?_) (hh := ?_) (hp := ?_) (hq := ?_) (hl := ?_)
      · rfl
      · rfl
      · rfl
      · show (refLL _ _ && (refLL _ _ && true)) = true
        rw [pureLL_ref (pureLL_kv _)]
        rfl
      · rw [hφ0]; exact Nat.le_succ _
    · try simp only [zqz] at h3
      apply G.skip
      apply G.seq
      refine G.rg tab_ok ok_l3Network (hk := ?_)
      refine G.pm [45, 6] [0, 3, 1] (hφ := fun m hm => first1 (show φ0.length = 1 from hφ0) hm rfl) (h := ?_)
      refine G.finMX (x := (ps, ks, c2, g2)) (junk := [some (2, [[.row false 3 (ps.map pv), .sl 1 0 ks.length]])]) ⟨⟨by simpa using h3, hpo, hks, by simp only; omega⟩, hcu2⟩ tab_ok (hr := ?_) (hh := ?_) (hp := ?_) (hq := ?_) (hl := ?_)
      · rfl
      · rfl
      · rfl
      · show (refLL _ _ && (refLL _ _ && true)) = true
        rw [pureLL_ref (pureLL_kv _)]
        rfl
      · rw [hφ0]; exact Nat.le_succ _
theorem ok_MakeNetwork : Kn.ok Try.prog (kof [(62, q_l01New)]) := kof_cons k_l01New ((kof_nil _))
theorem en_l3Network : Enters Try.prog 63 := enters_of Try.func63 rfl rfl
theorem MakeNetwork_ax (bs : List Int) (n : Int) (hc1 : BW bs) (hc2 : bs.length < 1099511627776) (hc3 : 0 ≤ n) (hc4 : n ≤ 8) : AX Try.prog 12 (X := List PG × List LK) [.row false 1 (bs.map bv), .int .i64 n] (fun x => netOk x.1 x.2 = true ∧ PO x.1 ∧ KS x.2 ∧ (x.1.length : Int) ≤ n) (fun x => .agg [.row false 3 (x.1.map pv), .row true 5 (x.2.map kv)]) := by
 have e_l01New := e_l01New
 have hmn : ¬ 8 < n := by omega
 have hmx : (if n > 0 then n else 0) = n := by split <;> omega
 have hcu : CuOk bs 0 := ⟨hc1, hc2, by omega, by omega⟩
 refine AX.of tab_ok Try.func12 rfl (Nat.le_of_ble_eq_true rfl) fun w0 S0 => ?_
 change G _ _ ⟨[(0, .row false 1 (bs.map bv)), (1, .int .i64 n)], [], 16⟩
 apply G.seq
 refine G.rg tab_ok ok_MakeNetwork (hk := ?_)
 apply G.seq
 refine G.rg tab_ok ok_MakeNetwork (hk := ?_)
 apply G.seq
 refine G.rgN 6 tab_ok (kof_nil _) (hk := ?_)
 refine G.cfX [1, 2] en_l01Int (int_mx bs 0 (newH bs (min bs.length 4000)) [2, 4, 10, 1000] hcu (by decide) (by decide)) (h := fun y hy => ?_)
 obtain ⟨a, ca, ga⟩ := y
 simp only at hy
 obtain ⟨hma, hcua⟩ := hy
 refine G.putX (h := ?_)
 have hab : 0 < a ∧ a ≤ 1000 := by
  simp only [List.mem_cons, List.not_mem_nil, or_false] at hma
  omega
 refine G.cfX [1] en_l3Network (l3Network_mx _ bs ca ga n a rfl hcua hc3 hc4 hab.1 hab.2) (h := fun y hy => ?_)
 obtain ⟨ps, ks, c2, g2⟩ := y
 simp only at hy
 obtain ⟨⟨hN, hpo, hks, hpn⟩, hcu2⟩ := hy
 refine G.putX (h := ?_)
 refine G.rgC tab_ok (kof_nil _) (hk := ?_)
 have htk : List.take ks.length (ks.map kv) = ks.map kv := List.take_of_length_le (by simp)
 have hpk := pureLL_kv ks
 refine G.finX (x := (ps, ks)) ⟨hN, hpo, hks, hpn⟩ tab_ok (hr := ?_)
 rfl
end Go.Proofs.Ytimgfinlbhodhaa.Ab
