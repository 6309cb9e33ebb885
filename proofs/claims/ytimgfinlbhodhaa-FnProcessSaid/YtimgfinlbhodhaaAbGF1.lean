/- Walks of functions of the program: what each answers, for all arguments that meet its conditions. -/
import Derived.Test.YtimgfinlbhodhaaAbGen2
import Derived.Test.YtimgfinlbhodhaaAbC4
import Derived.Test.YtimgfinlbhodhaaAbAutoI
import Derived.Test.YtimgfinlbhodhaaAbFreeze
import Derived.Test.YtimgfinlbhodhaaFwGd
namespace Go.Proofs.Ytimgfinlbhodhaa.Ab
open Go
set_option linter.unusedVariables false
set_option linter.unusedSimpArgs false
set_option maxHeartbeats 4000000
theorem ok_l2ProgramF : Kn.ok Try.prog (kof [(156, q_l2Make)]) := kof_cons k_l2Make ((kof_nil _))
theorem below_mx (bs : List Int) (i hh n : Int) (hc : CuOk bs i) (h0 : 0 < n) (h1 : n ≤ 256) : MX Try.prog 86 (X := Int × Int × Int) [some (3, [[.row false 1 (bs.map bv), .int .i64 (i), .int .i64 (hh)]])] [.ptr 0 0 0, .int .i64 n] (fun x => 0 ≤ x.1 ∧ x.1 < n ∧ CuOk bs x.2.1) (fun x => .int .i64 x.1) (fun x => [some (3, [[.row false 1 (bs.map bv), .int .i64 (x.2.1), .int .i64 (x.2.2)]])]) :=
  MC.ex (bel bs i hh n) ⟨(bel_ok bs i hh h0).1, (bel_ok bs i hh h0).2, bel_cu hc hh n⟩ (l01Below_mc _ bs i hh n rfl hc h1)
theorem once_mx (bs : List Int) (i hh n : Int) (hc : CuOk bs i) (h1 : n ≤ 256) : MX Try.prog 139 (X := Bool × Int × Int) [some (3, [[.row false 1 (bs.map bv), .int .i64 (i), .int .i64 (hh)]])] [.ptr 0 0 0, .int .i64 n] (fun x => CuOk bs x.2.1) (fun x => .bool x.1) (fun x => [some (3, [[.row false 1 (bs.map bv), .int .i64 (x.2.1), .int .i64 (x.2.2)]])]) :=
  MC.ex ((bel bs i hh n).1 == 0, (bel bs i hh n).2) (bel_cu hc hh n) (l01Once_mc _ bs i hh n rfl hc h1)
theorem int_mx (bs : List Int) (i hh : Int) (l : List Int) (hc : CuOk bs i) (h0 : 0 < l.length) (h1 : l.length ≤ 256) : MX Try.prog 64 (X := Int × Int × Int) [some (3, [[.row false 1 (bs.map bv), .int .i64 (i), .int .i64 (hh)]]), some (1, l.map iv)] [.ptr 0 0 0, .sl 1 0 l.length] (fun x => x.1 ∈ l ∧ CuOk bs x.2.1) (fun x => .int .i64 x.1) (fun x => [some (3, [[.row false 1 (bs.map bv), .int .i64 (x.2.1), .int .i64 (x.2.2)]]), some (1, l.map iv)]) :=
  MC.ex (l.getD (bel bs i hh l.length).1.toNat default, (bel bs i hh l.length).2) ⟨by
    have hk := bel_ok bs i hh (n := (l.length : Int)) (by omega)
    exact getD_mem0 (by omega), bel_cu hc hh _⟩ (l01Int_mc _ bs i hh l rfl hc h0 h1)
theorem l2ProgramF_mx (h : Heap) (bs : List Int) (i : Int) (hh : Int) (p : Int) (q : Int) (hc1 : h = [some (3, [[.row false 1 (bs.map bv), .int .i64 (i), .int .i64 (hh)]])]) (hc2 : CuOk bs i) (hc3 : 1 ≤ p) (hc4 : p ≤ 3) (hc5 : 0 ≤ q) (hc6 : q ≤ 3) : MX Try.prog 92 (X := List I4 × Int × Int) h [.ptr 0 0 0, .int .i64 p, .int .i64 q] (fun x => (progOk p q x.1 = true ∧ FwP x.1) ∧ CuOk bs x.2.1) (fun x => .agg [.int .i64 p, .int .i64 q, .sl 1 0 x.1.length]) (fun x => [some (3, [[.row false 1 (bs.map bv), .int .i64 (x.2.1), .int .i64 (x.2.2)]]), some (4, x.1.map insv)]) := by
  have e_l2Make := e_l2Make
  subst hc1
  have hivl := ivL_eq
  have hpiv := pureLL_ivL
  have hriv := roLL_ivL
  refine MX.of tab_ok Try.func92 rfl (Nat.le_of_ble_eq_true rfl) fun w0 S0 fs0 φ0 hφ0 hq0 => ?_
  change G _ _ ⟨[(0, .ptr 0 0 0), (1, .int .i64 p), (2, .int .i64 q)], _, 102⟩
  apply G.seq
  refine G.rg tab_ok ok_l2ProgramF (hk := ?_)
  apply G.seq
  refine G.rg tab_ok ok_l2ProgramF (hk := ?_)
  apply G.seq
  apply G.seq
  refine G.rg tab_ok ok_l2ProgramF (hk := ?_)
  apply G.block
  refine G.nmM [0, 1, 2, 6, 7, 8] (hφ := fun m hm => first1 (show φ0.length = 1 from hφ0) hm rfl) (h := ?_)
  refine G.loopX (fun x : List (List Int) × Nat × Int × Int => ⟨[(0, .ptr 0 0 0), (1, .int .i64 p), (2, .int .i64 q), (6, .ptr 1 0 0), (7, .sl 2 0 x.1.length), (8, .int .i64 (x.2.1 : Nat))], [some (3, [[.row false 1 (bs.map bv), .int .i64 (x.2.2.1), .int .i64 (x.2.2.2)]]), some (3, [[.int .i64 0, .int .i64 0, .nils]]), some (1, x.1.map ivL)], 102⟩) (fun x => (RF p q x.1 x.2.1 ∧ x.1.length = x.2.1) ∧ (x.2.1 : Int) ≤ p ∧ CuOk bs x.2.2.1) (fun x => p.toNat - x.2.1) (([], 0, i, hh)) (⟨⟨rf_nil p q, rfl⟩, by simp only; omega, hc2⟩) (rfl) ?_
  intro x hx J hJ
  obtain ⟨L, j, ci, ch⟩ := x
  simp only at hx ⊢
  obtain ⟨⟨hrw, hLj⟩, hjp, hcu⟩ := hx
  have hLj0 : L.length = 0 → (j : Int) = 0 := fun h => by omega
  have hLj1 : ¬ ((j : Int) < p) → 0 < L.length := fun h => by omega
  have hLa : L.length ≤ j := by omega
  have hLb : j ≤ L.length := by omega
  clear hLj
  have hwj : IntKind.i64.wrap ((j : Int) + 1) = ((j + 1 : Nat) : Int) := by rw [wrap64 (by omega) (by omega)]; omega
  have hql : List.take L.length (L.map ivL) = L.map ivL := List.take_of_length_le (by simp)
  have hLl := hrw.len
  have hq1 : ((L.length + 1 : Nat) : Int) ≤ 4611686018427387904 := by omega
  have hq2 : (L.length + 1) * 24 ≤ 70368744177664 := by omega
  apply G.seq
  apply G.seq
  refine G.rg tab_ok ok_l2ProgramF (hk := ?_)
  refine G.iff (h1 := fun h1 => ?_) (h2 := fun h1 => ?_)
  · try simp only [zz, bne_iff_ne, beq_iff_eq, bne_eq_false_iff_eq, beq_eq_false_iff_ne, ne_eq, gt_iff_lt, ge_iff_le] at h1
    apply G.skip
    apply G.seq
    apply G.block
    refine G.rgN 2 tab_ok (kof_nil _) (hk := ?_)
    refine G.cfX [0] en_l01Below (below_mx bs ci ch 2 hcu (by omega) (by omega)) (h := fun y hy => ?_)
    obtain ⟨a, ca, ga⟩ := y
    simp only at hy
    obtain ⟨ha0, ha1, hcua⟩ := hy
    refine G.putX (h := ?_)
    refine G.rgM 2 tab_ok (kof_nil _) (hk := ?_)
    refine G.freeze 21 3 rfl (by simp [look]) ?_
    simp only [List.set_cons_succ, List.set_cons_zero, roLL, roL, ro]
    have hap : L.map ivL ++ [[.row false 1 [[.int .i64 (1)], [.int .i64 (a)], [.int .i64 ((j : Int))]]]] = (L ++ [[1, a, (j : Int)]]).map ivL := by simp [ivL, iv]
    refine G.rgC tab_ok (kof_nil _) (hk := ?_)
    apply G.blk
    refine G.rg tab_ok ok_l2ProgramF (hk := ?_)
    refine G.nmM [0, 1, 2, 6, 7, 8] (hφ := fun m hm => first1 (show φ0.length = 1 from hφ0) hm rfl) (h := ?_)
    exact G.upto (hJ (L ++ [[1, a, (j : Int)]], j + 1, ca, ga) ⟨⟨rf_add hrw (row_read ha0 ha1 (by omega) (by omega)) (fw_read hLj0), by simp only [List.length_append, List.length_singleton]; omega⟩, by simp only; omega, hcua⟩ (by simp only; omega)) (by simp)
  · try simp only [zz, bne_iff_ne, beq_iff_eq, bne_eq_false_iff_eq, beq_eq_false_iff_ne, ne_eq, gt_iff_lt, ge_iff_le] at h1
    refine G.exit rfl ?_
    apply G.seq
    apply G.seq
    refine G.rgN 1 tab_ok (kof_nil _) (hk := ?_)
    refine G.cfX [0] en_l01Below (below_mx bs ci ch 3 hcu (by omega) (by omega)) (h := fun y hy => ?_)
    obtain ⟨a, ca, ga⟩ := y
    simp only at hy
    obtain ⟨ha0, ha1, hcua⟩ := hy
    refine G.putX (h := ?_)
    refine G.rgC tab_ok (kof_nil _) (hk := ?_)
    apply G.block
    refine G.nmM [0, 1, 2, 6, 7, 9] (hφ := fun m hm => first1 (show φ0.length = 1 from hφ0) hm rfl) (h := ?_)
    refine G.loopX (fun x : List (List Int) × Int × Int × Int => ⟨[(0, .ptr 0 0 0), (1, .int .i64 p), (2, .int .i64 q), (6, .ptr 1 0 0), (7, .sl 2 0 x.1.length), (9, .int .i64 x.2.1)], [some (3, [[.row false 1 (bs.map bv), .int .i64 (x.2.2.1), .int .i64 (x.2.2.2)]]), some (3, [[.int .i64 0, .int .i64 0, .nils]]), some (1, x.1.map ivL)], 102⟩) (fun x => RFp p q x.1 (5 - x.2.1.toNat) ∧ 0 ≤ x.2.1 ∧ x.2.1 ≤ 2 ∧ CuOk bs x.2.2.1) (fun x => x.2.1.toNat) ((L, a, ca, ga)) (⟨(rfp_of hrw (hLj1 (by omega))).more (by simp only; omega), ha0, by simp only; omega, hcua⟩) (rfl) ?_
    intro x hx J hJ
    clear hLj0 hLj1 hLa hLb hrw hcu hcua ha0 ha1 hql hLl hq1 hq2 hjp hwj
    obtain ⟨L, z, ci, ch⟩ := x
    simp only at hx ⊢
    obtain ⟨hrw, hz0, hz2, hcu⟩ := hx
    have hwz : IntKind.i64.wrap (z - 1) = z - 1 := wrap64 (by omega) (by omega)
    have hql : List.take L.length (L.map ivL) = L.map ivL := List.take_of_length_le (by simp)
    have hLl := hrw.len
    have hq1 : ((L.length + 1 : Nat) : Int) ≤ 4611686018427387904 := by omega
    have hq2 : (L.length + 1) * 24 ≤ 70368744177664 := by omega
    apply G.seq
    apply G.seq
    refine G.rg tab_ok ok_l2ProgramF (hk := ?_)
    refine G.iff (h1 := fun h2 => ?_) (h2 := fun h2 => ?_)
    · try simp only [zz, bne_iff_ne, beq_iff_eq, bne_eq_false_iff_eq, beq_eq_false_iff_ne, ne_eq, gt_iff_lt, ge_iff_le] at h2
      apply G.skip
      apply G.seq
      apply G.block
      refine G.rgN 3 tab_ok (kof_nil _) (hk := ?_)
      refine G.cfX [0, 3] en_l01Int (int_mx bs ci ch [4, 5, 6, 7] hcu (by decide) (by decide)) (h := fun y hy => ?_)
      obtain ⟨a, ca, ga⟩ := y
      simp only at hy
      obtain ⟨hma, hcua⟩ := hy
      refine G.putX (h := ?_)
      refine G.rgM 1 tab_ok (kof_nil _) (hk := ?_)
      refine G.cfX [0] en_l01Below (below_mx bs ca ga 4 hcua (by omega) (by omega)) (h := fun y hy => ?_)
      obtain ⟨b, cb, gb⟩ := y
      simp only at hy
      obtain ⟨hb0, hb1, hcub⟩ := hy
      refine G.putX (h := ?_)
      refine G.rgM 1 tab_ok (kof_nil _) (hk := ?_)
      refine G.cfX [0] en_l01Below (below_mx bs cb gb 4 hcub (by omega) (by omega)) (h := fun y hy => ?_)
      obtain ⟨c, cc, gc⟩ := y
      simp only at hy
      obtain ⟨hc0, hc1, hcuc⟩ := hy
      refine G.putX (h := ?_)
      refine G.rgM 1 tab_ok (kof_nil _) (hk := ?_)
      refine G.cfX [0] en_l01Below (below_mx bs cc gc 4 hcuc (by omega) (by omega)) (h := fun y hy => ?_)
      obtain ⟨d, cd, gd⟩ := y
      simp only at hy
      obtain ⟨hd0, hd1, hcud⟩ := hy
      refine G.putX (h := ?_)
      refine G.rgM 1 tab_ok (kof_nil _) (hk := ?_)
      refine G.freeze 40 4 rfl (by simp [look]) ?_
      simp only [List.set_cons_succ, List.set_cons_zero, roLL, roL, ro]
      have hap : L.map ivL ++ [[.row false 1 [[.int .i64 (a)], [.int .i64 (b)], [.int .i64 (c)], [.int .i64 (d)]]]] = (L ++ [[a, b, c, d]]).map ivL := by simp [ivL, iv]
      refine G.rgC tab_ok (kof_nil _) (hk := ?_)
      apply G.blk
      refine G.rg tab_ok ok_l2ProgramF (hk := ?_)
      refine G.nmM [0, 1, 2, 6, 7, 9] (hφ := fun m hm => first1 (show φ0.length = 1 from hφ0) hm rfl) (h := ?_)
      exact G.upto (hJ (L ++ [[a, b, c, d]], z - 1, cd, gd) ⟨(rfp_add hrw (row_alu hma hb0 hb1 hc0 hc1 hd0 hd1) (fw_alu hma)).more (by simp only; omega), by simp only; omega, by simp only; omega, hcud⟩ (by simp only; omega)) (by simp)
    · try simp only [zz, bne_iff_ne, beq_iff_eq, bne_eq_false_iff_eq, beq_eq_false_iff_ne, ne_eq, gt_iff_lt, ge_iff_le] at h2
      refine G.exit rfl ?_
      apply G.seq
      apply G.seq
      apply G.fam (X := List (List Int) × Int × Int) (fun x => ⟨[(0, .ptr 0 0 0), (1, .int .i64 p), (2, .int .i64 q), (6, .ptr 1 0 0), (7, .sl 2 0 x.1.length)], [some (3, [[.row false 1 (bs.map bv), .int .i64 (x.2.1), .int .i64 (x.2.2)]]), some (3, [[.int .i64 0, .int .i64 0, .nils]]), some (1, x.1.map ivL)], 102⟩) (fun x => RFp p q x.1 6 ∧ CuOk bs x.2.1)
      · intro hfam10
        refine G.rgN 1 tab_ok (kof_nil _) (hk := ?_)
        refine G.cfX [0] en_l01Once (once_mx bs ci ch 3 hcu (by omega)) (h := fun y hy => ?_)
        obtain ⟨a, ca, ga⟩ := y
        simp only at hy
        have hcua := hy
        refine G.putX (h := ?_)
        refine G.rgC tab_ok (kof_nil _) (hk := ?_)
        refine G.iff (h1 := fun h3 => ?_) (h2 := fun h3 => ?_)
        · try simp only [zz, bne_iff_ne, beq_iff_eq, bne_eq_false_iff_eq, beq_eq_false_iff_ne, ne_eq, gt_iff_lt, ge_iff_le] at h3
          refine G.rgN 2 tab_ok (kof_nil _) (hk := ?_)
          refine G.cfX [0] en_l01Below (below_mx bs ca ga 4 hcua (by omega) (by omega)) (h := fun y hy => ?_)
          obtain ⟨b, cb, gb⟩ := y
          simp only at hy
          obtain ⟨hb0, hb1, hcub⟩ := hy
          refine G.putX (h := ?_)
          refine G.rgM 1 tab_ok (kof_nil _) (hk := ?_)
          refine G.cfX [0] en_l01Below (below_mx bs cb gb 7 hcub (by omega) (by omega)) (h := fun y hy => ?_)
          obtain ⟨c, cc, gc⟩ := y
          simp only at hy
          obtain ⟨hc0, hc1, hcuc⟩ := hy
          refine G.putX (h := ?_)
          have hwc : IntKind.i64.wrap (c - 2) = c - 2 := wrap64 (by omega) (by omega)
          refine G.rgM 2 tab_ok (kof_nil _) (hk := ?_)
          refine G.freeze 51 3 rfl (by simp [look]) ?_
          simp only [List.set_cons_succ, List.set_cons_zero, roLL, roL, ro]
          have hap : L.map ivL ++ [[.row false 1 [[.int .i64 (3)], [.int .i64 (b)], [.int .i64 (c - 2)]]]] = (L ++ [[3, b, c - 2]]).map ivL := by simp [ivL, iv]
          refine G.rgC tab_ok (kof_nil _) (hk := ?_)
          refine G.nmM [0, 1, 2, 6, 7] (hφ := fun m hm => first1 (show φ0.length = 1 from hφ0) hm rfl) (h := ?_)
          first
          | exact G.toFam hfam10 (L ++ [[3, b, c - 2]], cc, gc) ⟨(rfp_add hrw (row_set hb0 hb1 hc0 hc1) fw_set).more (by omega), hcuc⟩ (by simp)
          | exact G.toFam hfam10 (L, ca, ga) ⟨hrw.more (by omega), hcua⟩ (by simp)
        · try simp only [zz, bne_iff_ne, beq_iff_eq, bne_eq_false_iff_eq, beq_eq_false_iff_ne, ne_eq, gt_iff_lt, ge_iff_le] at h3
          apply G.skip
          refine G.nmM [0, 1, 2, 6, 7] (hφ := fun m hm => first1 (show φ0.length = 1 from hφ0) hm rfl) (h := ?_)
          first
          | exact G.toFam hfam10 (L ++ [[3, b, c - 2]], cc, gc) ⟨(rfp_add hrw (row_set hb0 hb1 hc0 hc1) fw_set).more (by omega), hcuc⟩ (by simp)
          | exact G.toFam hfam10 (L, ca, ga) ⟨hrw.more (by omega), hcua⟩ (by simp)
      · intro x hx
        clear hrw hcu hql hLl hq1 hq2
        obtain ⟨L, ci, ch⟩ := x
        simp only at hx ⊢
        obtain ⟨hrw, hcu⟩ := hx
        have hql : List.take L.length (L.map ivL) = L.map ivL := List.take_of_length_le (by simp)
        have hLl := hrw.len
        have hq1 : ((L.length + 1 : Nat) : Int) ≤ 4611686018427387904 := by omega
        have hq2 : (L.length + 1) * 24 ≤ 70368744177664 := by omega
        apply G.seq
        apply G.seq
        apply G.fam (X := List (List Int) × Int × Int) (fun x => ⟨[(0, .ptr 0 0 0), (1, .int .i64 p), (2, .int .i64 q), (6, .ptr 1 0 0), (7, .sl 2 0 x.1.length)], [some (3, [[.row false 1 (bs.map bv), .int .i64 (x.2.1), .int .i64 (x.2.2)]]), some (3, [[.int .i64 0, .int .i64 0, .nils]]), some (1, x.1.map ivL)], 102⟩) (fun x => RFp p q x.1 7 ∧ CuOk bs x.2.1)
        · intro hfam12
          refine G.rgN 1 tab_ok (kof_nil _) (hk := ?_)
          refine G.cfX [0] en_l01Once (once_mx bs ci ch 3 hcu (by omega)) (h := fun y hy => ?_)
          obtain ⟨a, ca, ga⟩ := y
          simp only at hy
          have hcua := hy
          refine G.putX (h := ?_)
          refine G.rgC tab_ok (kof_nil _) (hk := ?_)
          refine G.iff (h1 := fun h4 => ?_) (h2 := fun h4 => ?_)
          · try simp only [zz, bne_iff_ne, beq_iff_eq, bne_eq_false_iff_eq, beq_eq_false_iff_ne, ne_eq, gt_iff_lt, ge_iff_le] at h4
            refine G.rgN 3 tab_ok (kof_nil _) (hk := ?_)
            refine G.cfX [0, 3] en_l01Int (int_mx bs ca ga [9, 10] hcua (by decide) (by decide)) (h := fun y hy => ?_)
            obtain ⟨b, cb, gb⟩ := y
            simp only at hy
            obtain ⟨hmb, hcub⟩ := hy
            refine G.putX (h := ?_)
            refine G.rgM 1 tab_ok (kof_nil _) (hk := ?_)
            refine G.cfX [0] en_l01Below (below_mx bs cb gb 4 hcub (by omega) (by omega)) (h := fun y hy => ?_)
            obtain ⟨c, cc, gc⟩ := y
            simp only at hy
            obtain ⟨hc0, hc1, hcuc⟩ := hy
            refine G.putX (h := ?_)
            have hwl : IntKind.i64.wrap ((L.length : Int) + 1) = (L.length : Int) + 1 := wrap64 (by omega) (by omega)
            refine G.rgM 4 tab_ok (kof_nil _) (hk := ?_)
            refine G.cfX [0] en_l01Below (below_mx bs cc gc 2 hcuc (by omega) (by omega)) (h := fun y hy => ?_)
            obtain ⟨d, cd, gd⟩ := y
            simp only at hy
            obtain ⟨hd0, hd1, hcud⟩ := hy
            refine G.putX (h := ?_)
            have hwd : IntKind.i64.wrap ((L.length : Int) + 1 + d) = (L.length : Int) + 1 + d := wrap64 (by omega) (by omega)
            refine G.rgM 2 tab_ok (kof_nil _) (hk := ?_)
            refine G.freeze 68 4 rfl (by simp [look]) ?_
            simp only [List.set_cons_succ, List.set_cons_zero, roLL, roL, ro]
            have hap : L.map ivL ++ [[.row false 1 [[.int .i64 (b)], [.int .i64 (c)], [.int .i64 ((L.length : Int) + 1 + d)]]]] = (L ++ [[b, c, (L.length : Int) + 1 + d]]).map ivL := by simp [ivL, iv]
            refine G.rgC tab_ok (kof_nil _) (hk := ?_)
            refine G.nmM [0, 1, 2, 6, 7] (hφ := fun m hm => first1 (show φ0.length = 1 from hφ0) hm rfl) (h := ?_)
            first
            | exact G.toFam hfam12 (L ++ [[b, c, (L.length : Int) + 1 + d]], cd, gd) ⟨rfp_add hrw (row_jump hmb hc0 hc1 (by omega) (by omega)) (fw_jump hmb (by omega)), hcud⟩ (by simp)
            | exact G.toFam hfam12 (L, ca, ga) ⟨hrw.more (by omega), hcua⟩ (by simp)
          · try simp only [zz, bne_iff_ne, beq_iff_eq, bne_eq_false_iff_eq, beq_eq_false_iff_ne, ne_eq, gt_iff_lt, ge_iff_le] at h4
            apply G.skip
            refine G.nmM [0, 1, 2, 6, 7] (hφ := fun m hm => first1 (show φ0.length = 1 from hφ0) hm rfl) (h := ?_)
            first
            | exact G.toFam hfam12 (L ++ [[b, c, (L.length : Int) + 1 + d]], cd, gd) ⟨rfp_add hrw (row_jump hmb hc0 hc1 (by omega) (by omega)) (fw_jump hmb (by omega)), hcud⟩ (by simp)
            | exact G.toFam hfam12 (L, ca, ga) ⟨hrw.more (by omega), hcua⟩ (by simp)
        · intro x hx
          clear hrw hcu hql hLl hq1 hq2
          obtain ⟨L, ci, ch⟩ := x
          simp only at hx ⊢
          obtain ⟨hrw, hcu⟩ := hx
          have hql : List.take L.length (L.map ivL) = L.map ivL := List.take_of_length_le (by simp)
          have hLl := hrw.len
          have hq1 : ((L.length + 1 : Nat) : Int) ≤ 4611686018427387904 := by omega
          have hq2 : (L.length + 1) * 24 ≤ 70368744177664 := by omega
          apply G.seq
          apply G.seq
          refine G.rg tab_ok ok_l2ProgramF (hk := ?_)
          apply G.block
          refine G.nmM [0, 1, 2, 6, 7, 10] (hφ := fun m hm => first1 (show φ0.length = 1 from hφ0) hm rfl) (h := ?_)
          refine G.loopX (fun x : List (List Int) × Nat × Int × Int => ⟨[(0, .ptr 0 0 0), (1, .int .i64 p), (2, .int .i64 q), (6, .ptr 1 0 0), (7, .sl 2 0 x.1.length), (10, .int .i64 (x.2.1 : Nat))], [some (3, [[.row false 1 (bs.map bv), .int .i64 (x.2.2.1), .int .i64 (x.2.2.2)]]), some (3, [[.int .i64 0, .int .i64 0, .nils]]), some (1, x.1.map ivL)], 102⟩) (fun x => RFp p q x.1 (7 + 2 * x.2.1) ∧ (x.2.1 : Int) ≤ q ∧ CuOk bs x.2.2.1) (fun x => q.toNat - x.2.1) ((L, 0, ci, ch)) (⟨hrw.more (by simp), by simp only; omega, hcu⟩) (rfl) ?_
          intro x hx J hJ
          clear hrw hcu hql hLl hq1 hq2
          obtain ⟨L, j, ci, ch⟩ := x
          simp only at hx ⊢
          obtain ⟨hrw, hjp, hcu⟩ := hx
          have hwj : IntKind.i64.wrap ((j : Int) + 1) = ((j + 1 : Nat) : Int) := by rw [wrap64 (by omega) (by omega)]; omega
          have hql : List.take L.length (L.map ivL) = L.map ivL := List.take_of_length_le (by simp)
          have hLl := hrw.len
          have hq1 : ((L.length + 1 : Nat) : Int) ≤ 4611686018427387904 := by omega
          have hq2 : (L.length + 1) * 24 ≤ 70368744177664 := by omega
          apply G.seq
          apply G.seq
          refine G.rg tab_ok ok_l2ProgramF (hk := ?_)
          refine G.iff (h1 := fun h5 => ?_) (h2 := fun h5 => ?_)
          · try simp only [zz, bne_iff_ne, beq_iff_eq, bne_eq_false_iff_eq, beq_eq_false_iff_ne, ne_eq, gt_iff_lt, ge_iff_le] at h5
            apply G.skip
            apply G.seq
            apply G.block
            apply G.seq
            refine G.rgN 2 tab_ok (kof_nil _) (hk := ?_)
            refine G.cfX [0] en_l01Below (below_mx bs ci ch 3 hcu (by omega) (by omega)) (h := fun y hy => ?_)
            obtain ⟨a, ca, ga⟩ := y
            simp only at hy
            obtain ⟨ha0, ha1, hcua⟩ := hy
            refine G.putX (h := ?_)
            refine G.rgM 2 tab_ok (kof_nil _) (hk := ?_)
            refine G.freeze 80 3 rfl (by simp [look]) ?_
            simp only [List.set_cons_succ, List.set_cons_zero, roLL, roL, ro]
            have hap : L.map ivL ++ [[.row false 1 [[.int .i64 (2)], [.int .i64 (a)], [.int .i64 ((j : Int))]]]] = (L ++ [[2, a, (j : Int)]]).map ivL := by simp [ivL, iv]
            refine G.rgC tab_ok (kof_nil _) (hk := ?_)
            apply G.seq
            have hrw2 : RFp p q (L ++ [[2, a, (j : Int)]]) (7 + 2 * j + 1) := rfp_add hrw (row_write ha0 ha1 (by omega) (by omega)) fw_write
            have hml : L.length + 1 = (L ++ [[2, a, (j : Int)]]).length := by simp
            obtain ⟨M, hM⟩ : ∃ x, L ++ [[2, a, (j : Int)]] = x := ⟨_, rfl⟩
            rw [hM] at hrw2 hml
            simp only [hM, hml]
            clear hap hM hml hql hLl hq1 hq2
            have hql : List.take M.length (M.map ivL) = M.map ivL := List.take_of_length_le (by simp)
            have hLl := hrw2.len
            have hq1 : ((M.length + 1 : Nat) : Int) ≤ 4611686018427387904 := by omega
            have hq2 : (M.length + 1) * 24 ≤ 70368744177664 := by omega
            refine G.rgN 1 tab_ok (kof_nil _) (hk := ?_)
            refine G.cfX [0] en_l01Once (once_mx bs ca ga 8 hcua (by omega)) (h := fun y hy => ?_)
            obtain ⟨b, cb, gb⟩ := y
            simp only at hy
            have hcub := hy
            refine G.putX (h := ?_)
            refine G.rgC tab_ok (kof_nil _) (hk := ?_)
            refine G.fg [0, 1, 2, 6, 7, 10, 84] (hk := ?_)
            refine G.iff (h1 := fun h6 => ?_) (h2 := fun h6 => ?_)
            · try simp only [zz, bne_iff_ne, beq_iff_eq, bne_eq_false_iff_eq, beq_eq_false_iff_ne, ne_eq, gt_iff_lt, ge_iff_le] at h6
              refine G.rgN 2 tab_ok (kof_nil _) (hk := ?_)
              refine G.cfX [0] en_l01Below (below_mx bs cb gb 3 hcub (by omega) (by omega)) (h := fun y hy => ?_)
              obtain ⟨e, ce, ge⟩ := y
              simp only at hy
              obtain ⟨he0, he1, hcue⟩ := hy
              refine G.putX (h := ?_)
              refine G.rgM 2 tab_ok (kof_nil _) (hk := ?_)
              refine G.freeze 89 6 rfl (by simp [look]) ?_
              simp only [List.set_cons_succ, List.set_cons_zero, roLL, roL, ro]
              have hap : M.map ivL ++ [[.row false 1 [[.int .i64 (2)], [.int .i64 (e)], [.int .i64 ((j : Int))]]]] = (M ++ [[2, e, (j : Int)]]).map ivL := by simp [ivL, iv]
              refine G.rgC tab_ok (kof_nil _) (hk := ?_)
              apply G.blk
              refine G.rg tab_ok ok_l2ProgramF (hk := ?_)
              refine G.nmM [0, 1, 2, 6, 7, 10] (hφ := fun m hm => first1 (show φ0.length = 1 from hφ0) hm rfl) (h := ?_)
              first
              | exact G.upto (hJ (M ++ [[2, e, (j : Int)]], j + 1, ce, ge) ⟨(rfp_add hrw2 (row_write he0 he1 (by omega) (by omega)) fw_write).more (by simp only; omega), by simp only; omega, hcue⟩ (by simp only; omega)) (by simp)
              | exact G.upto (hJ (M, j + 1, cb, gb) ⟨hrw2.more (by simp only; omega), by simp only; omega, hcub⟩ (by simp only; omega)) (by simp)
            · try simp only [zz, bne_iff_ne, beq_iff_eq, bne_eq_false_iff_eq, beq_eq_false_iff_ne, ne_eq, gt_iff_lt, ge_iff_le] at h6
              apply G.skip
              apply G.blk
              refine G.rg tab_ok ok_l2ProgramF (hk := ?_)
              refine G.nmM [0, 1, 2, 6, 7, 10] (hφ := fun m hm => first1 (show φ0.length = 1 from hφ0) hm rfl) (h := ?_)
              first
              | exact G.upto (hJ (M ++ [[2, e, (j : Int)]], j + 1, ce, ge) ⟨(rfp_add hrw2 (row_write he0 he1 (by omega) (by omega)) fw_write).more (by simp only; omega), by simp only; omega, hcue⟩ (by simp only; omega)) (by simp)
              | exact G.upto (hJ (M, j + 1, cb, gb) ⟨hrw2.more (by simp only; omega), by simp only; omega, hcub⟩ (by simp only; omega)) (by simp)
          · try simp only [zz, bne_iff_ne, beq_iff_eq, bne_eq_false_iff_eq, beq_eq_false_iff_ne, ne_eq, gt_iff_lt, ge_iff_le] at h5
            refine G.exit rfl ?_
            apply G.seq
            apply G.seq
            apply G.fam (X := List (List Int) × Int × Int) (fun x => ⟨[(0, .ptr 0 0 0), (1, .int .i64 p), (2, .int .i64 q), (6, .ptr 1 0 0), (7, .sl 2 0 x.1.length)], [some (3, [[.row false 1 (bs.map bv), .int .i64 (x.2.1), .int .i64 (x.2.2)]]), some (3, [[.int .i64 0, .int .i64 0, .nils]]), some (1, x.1.map ivL)], 102⟩) (fun x => RFp p q x.1 14 ∧ CuOk bs x.2.1)
            · intro hfam20
              refine G.rgN 1 tab_ok (kof_nil _) (hk := ?_)
              refine G.cfX [0] en_l01Once (once_mx bs ci ch 6 hcu (by omega)) (h := fun y hy => ?_)
              obtain ⟨a, ca, ga⟩ := y
              simp only at hy
              have hcua := hy
              refine G.putX (h := ?_)
              refine G.rgC tab_ok (kof_nil _) (hk := ?_)
              refine G.iff (h1 := fun h7 => ?_) (h2 := fun h7 => ?_)
              · try simp only [zz, bne_iff_ne, beq_iff_eq, bne_eq_false_iff_eq, beq_eq_false_iff_ne, ne_eq, gt_iff_lt, ge_iff_le] at h7
                refine G.rgN 2 tab_ok (kof_nil _) (hk := ?_)
                refine G.freeze 95 3 rfl (by simp [look]) ?_
                simp only [List.set_cons_succ, List.set_cons_zero, roLL, roL, ro]
                have hap : L.map ivL ++ [[.row false 1 [[.int .i64 (11)]]]] = (L ++ [[11]]).map ivL := by simp [ivL, iv]
                refine G.rgC tab_ok (kof_nil _) (hk := ?_)
                refine G.nmM [0, 1, 2, 6, 7] (hφ := fun m hm => first1 (show φ0.length = 1 from hφ0) hm rfl) (h := ?_)
                first
                | have hap2 := hap; exact G.toFam hfam20 (L ++ [[11]], ca, ga) ⟨(rfp_add hrw row_halt fw_halt).more (by omega), hcua⟩ (by simp)
                | exact G.toFam hfam20 (L, ca, ga) ⟨hrw.more (by omega), hcua⟩ (by simp)
              · try simp only [zz, bne_iff_ne, beq_iff_eq, bne_eq_false_iff_eq, beq_eq_false_iff_ne, ne_eq, gt_iff_lt, ge_iff_le] at h7
                apply G.skip
                refine G.nmM [0, 1, 2, 6, 7] (hφ := fun m hm => first1 (show φ0.length = 1 from hφ0) hm rfl) (h := ?_)
                first
                | have hap2 := hap; exact G.toFam hfam20 (L ++ [[11]], ca, ga) ⟨(rfp_add hrw row_halt fw_halt).more (by omega), hcua⟩ (by simp)
                | exact G.toFam hfam20 (L, ca, ga) ⟨hrw.more (by omega), hcua⟩ (by simp)
            · intro x hx
              clear hrw hcu hql hLl hq1 hq2
              obtain ⟨L, ci, ch⟩ := x
              simp only at hx ⊢
              obtain ⟨hrw, hcu⟩ := hx
              have hql : List.take L.length (L.map ivL) = L.map ivL := List.take_of_length_le (by simp)
              have hLl := hrw.len
              have hq1 : ((L.length + 1 : Nat) : Int) ≤ 4611686018427387904 := by omega
              have hq2 : (L.length + 1) * 24 ≤ 70368744177664 := by omega
              apply G.seq
              have e1 : q_l2Make [.int .i64 p, .int .i64 q, .row false 1 (L.map ivL)] = some (.agg [.int .i64 p, .int .i64 q, .row true 4 ((L.map pad4 ++ [(8, 0, 0, 0)]).map insv)]) := e_l2Make p q L (by omega) (fun x hx => (hrw.ok x hx).1)
              clear e_l2Make
              obtain ⟨PL, hPL⟩ : ∃ x, L.map pad4 ++ [((8, 0, 0, 0) : I4)] = x := ⟨_, rfl⟩
              have hPf : FwP PL := by rw [← hPL]; exact fw_prog hrw
              have hPo : progOk p q PL = true := by rw [← hPL]; exact rw_prog hrw.rf.rw (by omega) ⟨by omega, hc4⟩ ⟨hc5, hc6⟩
              rw [hPL] at e1
              refine G.rg tab_ok ok_l2ProgramF (hk := ?_)
              refine G.nmM [0, 101, 6] (hφ := fun m hm => first1 (show φ0.length = 1 from hφ0) hm rfl) (h := ?_)
              refine G.finMX (x := (PL, ci, ch)) (junk := [some (3, [[.int .i64 p, .int .i64 q, .sl 1 0 PL.length]])]) ⟨⟨hPo, hPf⟩, hcu⟩ tab_ok (hr := ?_) (hh := ?_) (hp := ?_) (hq := ?_) (hl := ?_)
              · rfl
              · rfl
              · rfl
              · show (refLL _ _ && (refLL _ _ && true)) = true
                rw [pureLL_ref (pureLL_insv _)]
                rfl
              · rw [hφ0]; exact Nat.le_succ _
end Go.Proofs.Ytimgfinlbhodhaa.Ab
