/- Walks of functions of the program: what each answers, for all arguments that meet its conditions. -/
import Derived.Test.YtimgfinlbhodhaaAbG2
import Derived.Test.YtimgfinlbhodhaaAbWire
import Derived.Test.YtimgfinlbhodhaaFwB
import Derived.Test.YtimgfinlbhodhaaFwGd
namespace Go.Proofs.Ytimgfinlbhodhaa.Ab
open Go
set_option linter.unusedVariables false
set_option linter.unusedSimpArgs false
set_option maxHeartbeats 4000000
theorem onceG_mx (bs : List Int) (i hh n : Int) (hc : CuOk bs i) (h0 : 0 < n) (h1 : n ≤ 1000) : MX Try.prog 139 (X := Bool × Int × Int) [some (3, [[.row false 1 (bs.map bv), .int .i64 (i), .int .i64 (hh)]])] [.ptr 0 0 0, .int .i64 n] (fun x => CuOk bs x.2.1) (fun x => .bool x.1) (fun x => [some (3, [[.row false 1 (bs.map bv), .int .i64 (x.2.1), .int .i64 (x.2.2)]])]) := by
  by_cases h : n ≤ 256
  · exact once_mx bs i hh n hc h
  · exact l01OnceB_mx _ bs i hh n rfl hc (by omega) h1
theorem tok_mx (bs : List Int) (i hh m : Int) (hc : CuOk bs i) (h0 : 0 ≤ m) (h1 : m ≤ 255) : MX Try.prog 93 (X := List Int × Int × Int) [some (3, [[.row false 1 (bs.map bv), .int .i64 (i), .int .i64 (hh)]])] [.ptr 0 0 0, .int .i64 m] (fun x => x.1.length ≤ 255 ∧ CuOk bs x.2.1) (fun x => .sl 1 0 x.1.length) (fun x => [some (3, [[.row false 1 (bs.map bv), .int .i64 (x.2.1), .int .i64 (x.2.2)]]), some (1, x.1.map iv)]) :=
  MC.ex (tokS bs i hh m) ⟨tokS_len255 bs i hh h0 h1, tokS_cu hc hh m⟩ (l3Tokens_mc _ bs i hh m rfl hc h0 h1)
theorem l3Wire_mx (h : Heap) (bs : List Int) (i : Int) (hh : Int) (ps : List PG) (lp : Int) (hc1 : h = [some (3, [[.row false 1 (bs.map bv), .int .i64 (i), .int .i64 (hh)]])]) (hc2 : CuOk bs i) (hc3 : ps.length ≤ 8) (hc4 : ∀ x ∈ ps, progOk x.i x.o x.l = true) (hc5 : 0 < lp) (hc6 : lp ≤ 1000) : MX Try.prog 140 (X := List LK × Int × Int) h [.ptr 0 0 0, .row false 3 (ps.map pv), .int .i64 lp] (fun x => x.1.length ≤ 48 ∧ KS x.1 ∧ CuOk bs x.2.1) (fun x => .agg [.row false 3 (ps.map pv), .sl 1 0 x.1.length]) (fun x => [some (3, [[.row false 1 (bs.map bv), .int .i64 (x.2.1), .int .i64 (x.2.2)]]), some (5, x.1.map kv)]) := by
  subst hc1
  have hfe := fv_eq
  have hpf := pureLL_fv
  have hrf := roLL_fv
  have hcf := copyable_fv
  have hpb : ∀ j, j < ps.length → (0 ≤ (ps.getD j default).i ∧ (ps.getD j default).i ≤ 3) ∧ (0 ≤ (ps.getD j default).o ∧ (ps.getD j default).o ≤ 3) := fun j hj => by
    have h := hc4 _ (getD_mem0 hj)
    simp only [progOk, inR, Bool.and_eq_true, decide_eq_true_eq] at h
    omega
  refine MX.of tab_ok Try.func140 rfl (Nat.le_of_ble_eq_true rfl) fun w0 S0 fs0 φ0 hφ0 hq0 => ?_
  change G _ _ ⟨[(0, .ptr 0 0 0), (1, .row false 3 (ps.map pv)), (2, .int .i64 lp)], _, 146⟩
  apply G.seq
  refine G.rg tab_ok (kof_nil _) (hk := ?_)
  apply G.seq
  refine G.rg tab_ok (kof_nil _) (hk := ?_)
  apply G.seq
  refine G.rg tab_ok (kof_nil _) (hk := ?_)
  apply G.seq
  apply G.seq
  refine G.rg tab_ok (kof_nil _) (hk := ?_)
  apply G.block
  refine G.nmM [0, 1, 2, 6, 7, 8, 22, 23, 24] (hφ := fun m hm => first1 (show φ0.length = 1 from hφ0) hm rfl) (h := ?_)
  refine G.loopX (fun x : List (Int × Int) × Nat => ⟨[(0, .ptr 0 0 0), (1, .row false 3 (ps.map pv)), (2, .int .i64 lp), (6, .ptr 1 0 0), (7, .ptr 2 0 0), (8, .sl 3 0 x.1.length), (22, .row false 3 (ps.map pv)), (23, .int .i64 ps.length), (24, .int .i64 (x.2 : Nat))], [some (3, [[.row false 1 (bs.map bv), .int .i64 (i), .int .i64 (hh)]]), some (2, [[.nils, .nils]]), some (2, [[.row false 3 (ps.map pv), .nils]]), some (1, x.1.map fv)], 146⟩) (fun x => x.1.length ≤ 3 * x.2 ∧ x.2 ≤ ps.length) (fun x => ps.length - x.2) (([], 0)) (⟨by simp, by simp⟩) (rfl) ?_
  intro x hx J2 hJ2
  obtain ⟨F, j⟩ := x
  simp only at hx ⊢
  obtain ⟨hF, hj⟩ := hx
  have hw : IntKind.i64.wrap ((j : Int) + 1) = ((j + 1 : Nat) : Int) := by rw [wrap64 (by omega) (by omega)]; omega
  apply G.seq
  refine G.rg tab_ok (kof_nil _) (hk := ?_)
  apply G.seq
  refine G.iff (h1 := fun h1 => ?_) (h2 := fun h1 => ?_)
  · try simp only [zz, bne_iff_ne, beq_iff_eq, bne_eq_false_iff_eq, beq_eq_false_iff_ne, ne_eq, gt_iff_lt, ge_iff_le] at h1
    apply G.skip
    apply G.seq
    apply G.block
    apply G.seq
    have hjp : j < ps.length := by omega
    obtain ⟨⟨hpi0, hpi3⟩, hpo⟩ := hpb j hjp
    refine G.rg tab_ok (kof_nil _) (hk := ?_)
    apply G.seq
    refine G.rg tab_ok (kof_nil _) (hk := ?_)
    apply G.block
    refine G.nmM [0, 1, 2, 6, 7, 8, 9, 10, 11, 22, 23, 24] (hφ := fun m hm => first1 (show φ0.length = 1 from hφ0) hm rfl) (h := ?_)
    refine G.loopX (fun y : List (Int × Int) × Nat => ⟨[(0, .ptr 0 0 0), (1, .row false 3 (ps.map pv)), (2, .int .i64 lp), (6, .ptr 1 0 0), (7, .ptr 2 0 0), (8, .sl 3 0 y.1.length), (9, .int .i64 (j : Nat)), (10, .ptr 4 0 0), (11, .int .i64 (y.2 : Nat)), (22, .row false 3 (ps.map pv)), (23, .int .i64 ps.length), (24, .int .i64 (j : Nat))], [some (3, [[.row false 1 (bs.map bv), .int .i64 (i), .int .i64 (hh)]]), some (2, [[.nils, .nils]]), some (2, [[.row false 3 (ps.map pv), .nils]]), some (1, y.1.map fv), some (3, [pv (ps.getD j default)])], 146⟩) (fun y => y.1.length ≤ 3 * j + y.2 ∧ (y.2 : Int) ≤ (ps.getD j default).i) (fun y => (ps.getD j default).i.toNat - y.2) ((F, 0)) (⟨by simp only; omega, by simp only; omega⟩) (by simp [pv]) ?_
    intro y hy J hJ
    obtain ⟨F2, q⟩ := y
    simp only at hy ⊢
    obtain ⟨hF2, hq⟩ := hy
    have hwq : IntKind.i64.wrap ((q : Int) + 1) = ((q + 1 : Nat) : Int) := by rw [wrap64 (by omega) (by omega)]; omega
    have hb1 : ((F2.length + 1 : Nat) : Int) ≤ 4611686018427387904 := by omega
    have hb2 : (F2.length + 1) * 24 ≤ 70368744177664 := by omega
    have htF : List.take F2.length (F2.map fv) = F2.map fv := List.take_of_length_le (by simp)
    apply G.seq
    apply G.seq
    refine G.rg tab_ok (kof_nil _) (hk := ?_)
    refine G.iff (h1 := fun h2 => ?_) (h2 := fun h2 => ?_)
    · try simp only [zz, bne_iff_ne, beq_iff_eq, bne_eq_false_iff_eq, beq_eq_false_iff_ne, ne_eq, gt_iff_lt, ge_iff_le] at h2
      apply G.skip
      apply G.seq
      apply G.block
      refine G.rgN 4 tab_ok (kof_nil _) (hk := ?_)
      refine G.freeze 38 5 rfl (by simp [look]) ?_
      simp only [List.set_cons_succ, List.set_cons_zero, roLL, roL, ro, roLL_iv]
      have hap : F2.map fv ++ [[.row false 1 [[.int .i64 (j : Int)], [.int .i64 (q : Int)]]]] = (F2 ++ [((j : Int), (q : Int))]).map fv := by simp [fv]
      refine G.rgC tab_ok (kof_nil _) (hk := ?_)
      apply G.blk
      refine G.rg tab_ok (kof_nil _) (hk := ?_)
      refine G.nmM [0, 1, 2, 6, 7, 8, 9, 10, 11, 22, 23, 24] (hφ := fun m hm => first1 (show φ0.length = 1 from hφ0) hm rfl) (h := ?_)
      exact G.upto (hJ (F2 ++ [((j : Int), (q : Int))], q + 1) ⟨by simp; omega, by simp only; omega⟩ (by simp only; omega)) (by simp [pv])
    · try simp only [zz, bne_iff_ne, beq_iff_eq, bne_eq_false_iff_eq, beq_eq_false_iff_ne, ne_eq, gt_iff_lt, ge_iff_le] at h2
      refine G.exit rfl ?_
      apply G.blk
      refine G.rg tab_ok (kof_nil _) (hk := ?_)
      refine G.nmM [0, 1, 2, 6, 7, 8, 22, 23, 24] (hφ := fun m hm => first1 (show φ0.length = 1 from hφ0) hm rfl) (h := ?_)
      exact G.upto (hJ2 (F2, j + 1) ⟨by simp only; omega, by simp only; omega⟩ (by simp only; omega)) (by simp)
  · try simp only [zz, bne_iff_ne, beq_iff_eq, bne_eq_false_iff_eq, beq_eq_false_iff_ne, ne_eq, gt_iff_lt, ge_iff_le] at h1
    refine G.exit rfl ?_
    apply G.seq
    apply G.seq
    refine G.rg tab_ok (kof_nil _) (hk := ?_)
    apply G.block
    refine G.focusNil 2 0 1 5 rfl rfl rfl ?_
    simp only [withH, List.set_cons_succ, List.set_cons_zero, List.cons_append, List.nil_append, List.length_cons, List.length_nil]
    refine G.nmM [0, 2, 6, 7, 8, 42, 43, 44] (hφ := fun m hm => first1 (show φ0.length = 1 from hφ0) hm rfl) (h := ?_)
    refine G.loopX (fun x : List (Int × Int) × List LK × Int × Int × Nat => ⟨[(0, .ptr 0 0 0), (2, .int .i64 lp), (6, .ptr 1 0 0), (7, .ptr 2 0 0), (8, .sl 3 0 x.1.length), (42, .row false 3 (ps.map pv)), (43, .int .i64 ps.length), (44, .int .i64 (x.2.2.2.2 : Nat))], [some (3, [[.row false 1 (bs.map bv), .int .i64 (x.2.2.1), .int .i64 (x.2.2.2.1)]]), some (2, [[.nils, .nils]]), some (2, [[.row false 3 (ps.map pv), .sl 4 0 x.2.1.length]]), some (1, x.1.map fv), some (5, x.2.1.map kv)], 146⟩) (fun x => x.1.length ≤ 24 ∧ x.2.1.length ≤ 3 * x.2.2.2.2 ∧ KS x.2.1 ∧ CuOk bs x.2.2.1 ∧ x.2.2.2.2 ≤ ps.length) (fun x => ps.length - x.2.2.2.2) ((F, [], i, hh, 0)) (⟨by simp only; omega, by simp, ks_nil, hc2, by simp⟩) (rfl) ?_
    intro x hx J2 hJ2
    clear hF hj hw
    obtain ⟨F, ks, ci, ch, j⟩ := x
    simp only at hx ⊢
    obtain ⟨hF, hK, hks, hcu, hj⟩ := hx
    have hw : IntKind.i64.wrap ((j : Int) + 1) = ((j + 1 : Nat) : Int) := by rw [wrap64 (by omega) (by omega)]; omega
    apply G.seq
    refine G.rg tab_ok (kof_nil _) (hk := ?_)
    apply G.seq
    refine G.iff (h1 := fun h3 => ?_) (h2 := fun h3 => ?_)
    · try simp only [zz, bne_iff_ne, beq_iff_eq, bne_eq_false_iff_eq, beq_eq_false_iff_ne, ne_eq, gt_iff_lt, ge_iff_le] at h3
      apply G.skip
      apply G.seq
      apply G.block
      apply G.seq
      have hjp : j < ps.length := by omega
      obtain ⟨hpi, hpo0, hpo3⟩ := hpb j hjp
      refine G.rg tab_ok (kof_nil _) (hk := ?_)
      apply G.seq
      refine G.rg tab_ok (kof_nil _) (hk := ?_)
      apply G.block
      refine G.nmM [0, 2, 6, 7, 8, 12, 13, 14, 42, 43, 44] (hφ := fun m hm => first1 (show φ0.length = 1 from hφ0) hm rfl) (h := ?_)
      refine G.loopX (fun y : List (Int × Int) × List LK × Int × Int × Nat => ⟨[(0, .ptr 0 0 0), (2, .int .i64 lp), (6, .ptr 1 0 0), (7, .ptr 2 0 0), (8, .sl 3 0 y.1.length), (12, .int .i64 (j : Nat)), (13, .ptr 4 0 0), (14, .int .i64 (y.2.2.2.2 : Nat)), (42, .row false 3 (ps.map pv)), (43, .int .i64 ps.length), (44, .int .i64 (j : Nat))], [some (3, [[.row false 1 (bs.map bv), .int .i64 (y.2.2.1), .int .i64 (y.2.2.2.1)]]), some (2, [[.nils, .nils]]), some (2, [[.row false 3 (ps.map pv), .sl 5 0 y.2.1.length]]), some (1, y.1.map fv), some (3, [pv (ps.getD j default)]), some (5, y.2.1.map kv)], 146⟩) (fun y => y.1.length ≤ 24 ∧ y.2.1.length ≤ 3 * j + y.2.2.2.2 ∧ KS y.2.1 ∧ CuOk bs y.2.2.1 ∧ (y.2.2.2.2 : Int) ≤ (ps.getD j default).o) (fun y => (ps.getD j default).o.toNat - y.2.2.2.2) ((F, ks, ci, ch, 0)) (⟨hF, by simp only; omega, hks, hcu, by simp only; omega⟩) (by simp [pv]) ?_
      intro y hy J hJ
      obtain ⟨F, ks2, di, dh, q⟩ := y
      simp only at hy ⊢
      obtain ⟨hF2, hK2, hks2, hdu, hq⟩ := hy
      have hwq : IntKind.i64.wrap ((q : Int) + 1) = ((q + 1 : Nat) : Int) := by rw [wrap64 (by omega) (by omega)]; omega
      have hb1 : ((ks2.length + 1 : Nat) : Int) ≤ 4611686018427387904 := by omega
      have hb2 : (ks2.length + 1) * 56 ≤ 70368744177664 := by omega
      have htK : List.take ks2.length (ks2.map kv) = ks2.map kv := List.take_of_length_le (by simp)
      have htF : List.take F.length (F.map fv) = F.map fv := List.take_of_length_le (by simp)
      apply G.seq
      apply G.seq
      refine G.rg tab_ok (kof_nil _) (hk := ?_)
      refine G.iff (h1 := fun h4 => ?_) (h2 := fun h4 => ?_)
      · try simp only [zz, bne_iff_ne, beq_iff_eq, bne_eq_false_iff_eq, beq_eq_false_iff_ne, ne_eq, gt_iff_lt, ge_iff_le] at h4
        apply G.skip
        apply G.seq
        apply G.block
        apply G.seq
        refine G.rg tab_ok (kof_nil _) (hk := ?_)
        apply G.seq
        have hwF : IntKind.i64.wrap ((F.length : Int) + 1) = (F.length : Int) + 1 := wrap64 (by omega) (by omega)
        refine G.rgN 4 tab_ok (kof_nil _) (hk := ?_)
        refine G.cfX [0] en_l01Below (below_mx bs di dh (F.length + 1) hdu (by omega) (by omega)) (h := fun y hy => ?_)
        obtain ⟨a, ca, ga⟩ := y
        simp only at hy
        obtain ⟨ha0, ha1, hcua⟩ := hy
        refine G.putX (h := ?_)
        refine G.rgC tab_ok (kof_nil _) (hk := ?_)
        apply G.seq
        apply G.seq
        apply G.fam (X := LK × List (Int × Int) × Int × Int) (fun z => ⟨[(0, .ptr 0 0 0), (2, .int .i64 lp), (6, .ptr 1 0 0), (7, .ptr 2 0 0), (8, .sl 3 0 z.2.1.length), (12, .int .i64 (j : Nat)), (13, .ptr 4 0 0), (14, .int .i64 (q : Nat)), (15, .ptr 5 0 0), (42, .row false 3 (ps.map pv)), (43, .int .i64 ps.length), (44, .int .i64 (j : Nat))], [some (3, [[.row false 1 (bs.map bv), .int .i64 (z.2.2.1), .int .i64 (z.2.2.2)]]), some (2, [[.nils, .nils]]), some (2, [[.row false 3 (ps.map pv), .sl 6 0 ks2.length]]), some (1, z.2.1.map fv), some (3, [pv (ps.getD j default)]), some (5, [kv z.1]), some (5, ks2.map kv)], 146⟩) (fun z => z.1.tk.length ≤ 255 ∧ z.2.1.length ≤ 24 ∧ CuOk bs z.2.2.1)
        · intro hfam19
          rcases (show (a < (F.length : Int) ∧ (F.getD a.toNat default).1 > (j : Int)) ∨ (a < (F.length : Int) ∧ ¬ (F.getD a.toNat default).1 > (j : Int)) ∨ ¬ a < (F.length : Int) by omega) with ⟨d1, d2⟩ | ⟨d1, d2⟩ | d1
          · skip
            have ht0 : a.toNat < F.length := by omega
            have hgt : (F.map fv)[a.toNat]? = some (fv (F.getD a.toNat default)) := by rw [List.getElem?_map, getD_some ht0]; rfl
            have hrdf : rdCells (F.map fv) a.toNat 0 1 = some [.row false 1 [[.int .i64 (F.getD a.toNat default).1], [.int .i64 (F.getD a.toNat default).2]]] := by simp only [rdCells, hgt]; rfl
            have hat1 : a < (F.length : Int) := by omega
            have hat2 : a ≤ (F.length : Int) := by omega
            have hat3 : a + 1 ≤ (F.length : Int) := by omega
            have hat0 : 0 ≤ a + 1 := by omega
            have hat4 : a.toNat ≤ F.length := by omega
            have hwa : IntKind.i64.wrap (a + 1) = a + 1 := wrap64 (by omega) (by omega)
            have hsl1 : List.take a.toNat (F.map fv) = (F.take a.toNat).map fv := by rw [List.map_take]
            have hta : (a + 1).toNat = a.toNat + 1 := by omega
            have hsl2 : List.take (F.length - (a.toNat + 1)) (List.drop (a.toNat + 1) (F.map fv)) = (F.drop (a.toNat + 1)).map fv := by rw [← List.map_drop]; exact List.take_of_length_le (by simp)
            have hmn : min a.toNat F.length = a.toNat := by omega
            have hmm : min a.toNat a.toNat = a.toNat := Nat.min_self _
            have hsl7 : List.take a.toNat ((F.take a.toNat).map fv) = (F.take a.toNat).map fv := List.take_of_length_le (by simp; omega)
            have hsl4 : (F.take a.toNat).map fv ++ (F.drop (a.toNat + 1)).map fv = (F.take a.toNat ++ F.drop (a.toNat + 1)).map fv := by rw [List.map_append]
            have hsl5 : (F.take a.toNat ++ F.drop (a.toNat + 1)).length = a.toNat + (F.length - (a.toNat + 1)) := by rw [List.length_append, List.length_take, List.length_drop]; omega
            have hle5 : a.toNat + (F.length - (a.toNat + 1)) ≤ 24 := by omega
            have hbc1 : ((a.toNat : Nat) : Int) ≤ 4611686018427387904 := by omega
            have hbc2 : a.toNat * 24 ≤ 70368744177664 := by omega
            have hbc3 : ((a.toNat + (F.length - (a.toNat + 1)) : Nat) : Int) ≤ 4611686018427387904 := by omega
            have hbc4 : (a.toNat + (F.length - (a.toNat + 1))) * 24 ≤ 70368744177664 := by omega
            have hle6 : a.toNat + 1 + (F.length - (a.toNat + 1)) ≤ F.length := by omega
            have d3 : ¬ (F.getD a.toNat default).1 ≤ (j : Int) := by omega
            refine G.rgN 5 tab_ok (kof_nil _) (hk := ?_)
            refine G.rdC tab_ok (kof_nil _) (hk := ?_)
            refine G.iffT (h1 := ?_)
            apply G.seq
            refine G.fg [0, 2, 6, 7, 8, 12, 13, 14, 15, 16, 42, 43, 44, 107, 108, 109, 110, 111, 112, 113, 114, 115, 116] (hk := ?_)
            refine G.rg tab_ok (kof_nil _) (hk := ?_)
            apply G.seq
            refine G.rg tab_ok (kof_nil _) (hk := ?_)
            apply G.seq
            apply G.seq
            refine G.rg tab_ok (kof_nil _) (hk := ?_)
            refine G.iffF (h2 := ?_)
            apply G.skip
            apply G.joinR
            · intro hk
              refine G.drawL (c := ⟨Try.prog, tab, _, _, _, _, _⟩) mixed tab_ok (kof_nil _) 11 ?_ rfl
              refine AnyL.gg (n := 5) 6 [1, 2, 3, 5, 6, 7] (h := ?_)
              refine AnyL.fk2 (n := 4) 0 8 (k1 := ?_) (k2 := ?_)
              · skip
                refine AnyL.fk2 (n := 3) 4 8 (k1 := ?_) (k2 := ?_)
                · skip
                  refine AnyL.gg (n := 0) 3 [8, 9, 10] (h := ?_)
                  exact AnyL.lf [0, 2, 6, 7, 8, 12, 13, 14, 15, 42, 43, 44] (hk := hk)
                · skip
                  refine AnyL.gg (n := 0) 3 [4, 9, 10] (h := ?_)
                  exact AnyL.lf [0, 2, 6, 7, 8, 12, 13, 14, 15, 42, 43, 44] (hk := hk)
              · skip
                refine AnyL.gg (n := 0) 4 [0, 4, 9, 10] (h := ?_)
                exact AnyL.lf [0, 2, 6, 7, 8, 12, 13, 14, 15, 42, 43, 44] (hk := hk)
            first
            | (refine G.weakCell 6 0 4 (.row false 1 []) rfl rfl rfl (fun w S φ v f h => nil_ro h) ?_
               simp only [withH, List.set_cons_succ, List.set_cons_zero])
            | skip
            refine G.nmM [0, 2, 6, 7, 8, 12, 13, 14, 15, 42, 43, 44] (hφ := fun m hm => first1 (show φ0.length = 1 from hφ0) hm rfl) (h := ?_)
            first
            | (have hh1 := htk
               exact G.toFam hfam19 (⟨(j : Int), (q : Int), (F.getD a.toNat default).1, (F.getD a.toNat default).2, tk⟩, (F.take a.toNat ++ F.drop (a.toNat + 1)), ct, gt) ⟨htk, by simp only [hsl5]; omega, hcut⟩ (by simp [kv, pv, hmn]))
            | (have hh1 := d3
               have hh2 : ¬ (F.getD a.toNat default).1 ≤ (j : Int) := d3
               exact G.toFam hfam19 (⟨(j : Int), (q : Int), (F.getD a.toNat default).1, (F.getD a.toNat default).2, []⟩, (F.take a.toNat ++ F.drop (a.toNat + 1)), ca, ga) ⟨by simp, by simp only [hsl5]; omega, hcua⟩ (by simp [kv, pv, hmn]))
            | (have hh1 := hcub
               exact G.toFam hfam19 (⟨(j : Int), (q : Int), -1, 0, []⟩, F, cb, gb) ⟨by simp, by simp only; omega, hcub⟩ (by simp [kv, pv]))
            | (exact G.toFam hfam19 (⟨(j : Int), (q : Int), -1, 0, []⟩, F, ca, ga) ⟨by simp, by simp only; omega, hcua⟩ (by simp [kv, pv]))
          · skip
            have ht0 : a.toNat < F.length := by omega
            have hgt : (F.map fv)[a.toNat]? = some (fv (F.getD a.toNat default)) := by rw [List.getElem?_map, getD_some ht0]; rfl
            have hrdf : rdCells (F.map fv) a.toNat 0 1 = some [.row false 1 [[.int .i64 (F.getD a.toNat default).1], [.int .i64 (F.getD a.toNat default).2]]] := by simp only [rdCells, hgt]; rfl
            have hat1 : a < (F.length : Int) := by omega
            have hat2 : a ≤ (F.length : Int) := by omega
            have hat3 : a + 1 ≤ (F.length : Int) := by omega
            have hat0 : 0 ≤ a + 1 := by omega
            have hat4 : a.toNat ≤ F.length := by omega
            have hwa : IntKind.i64.wrap (a + 1) = a + 1 := wrap64 (by omega) (by omega)
            have hsl1 : List.take a.toNat (F.map fv) = (F.take a.toNat).map fv := by rw [List.map_take]
            have hta : (a + 1).toNat = a.toNat + 1 := by omega
            have hsl2 : List.take (F.length - (a.toNat + 1)) (List.drop (a.toNat + 1) (F.map fv)) = (F.drop (a.toNat + 1)).map fv := by rw [← List.map_drop]; exact List.take_of_length_le (by simp)
            have hmn : min a.toNat F.length = a.toNat := by omega
            have hmm : min a.toNat a.toNat = a.toNat := Nat.min_self _
            have hsl7 : List.take a.toNat ((F.take a.toNat).map fv) = (F.take a.toNat).map fv := List.take_of_length_le (by simp; omega)
            have hsl4 : (F.take a.toNat).map fv ++ (F.drop (a.toNat + 1)).map fv = (F.take a.toNat ++ F.drop (a.toNat + 1)).map fv := by rw [List.map_append]
            have hsl5 : (F.take a.toNat ++ F.drop (a.toNat + 1)).length = a.toNat + (F.length - (a.toNat + 1)) := by rw [List.length_append, List.length_take, List.length_drop]; omega
            have hle5 : a.toNat + (F.length - (a.toNat + 1)) ≤ 24 := by omega
            have hbc1 : ((a.toNat : Nat) : Int) ≤ 4611686018427387904 := by omega
            have hbc2 : a.toNat * 24 ≤ 70368744177664 := by omega
            have hbc3 : ((a.toNat + (F.length - (a.toNat + 1)) : Nat) : Int) ≤ 4611686018427387904 := by omega
            have hbc4 : (a.toNat + (F.length - (a.toNat + 1))) * 24 ≤ 70368744177664 := by omega
            have hle6 : a.toNat + 1 + (F.length - (a.toNat + 1)) ≤ F.length := by omega
            have d3 : (F.getD a.toNat default).1 ≤ (j : Int) := by omega
            refine G.rgN 5 tab_ok (kof_nil _) (hk := ?_)
            refine G.rdN 11 tab_ok (kof_nil _) (hk := ?_)
            refine G.want (by simp [wantedA, dstOf, look]) ?_
            refine G.cfX [0] en_l01Once (onceG_mx bs ca ga lp hcua hc5 hc6) (h := fun y hy => ?_)
            obtain ⟨b, cb, gb⟩ := y
            simp only at hy
            have hcub := hy
            refine G.putX (h := ?_)
            refine G.rdC tab_ok (kof_nil _) (hk := ?_)
            refine G.fg [0, 2, 6, 7, 8, 12, 13, 14, 15, 16, 42, 43, 44, 81, 107, 108, 109, 110, 111, 112, 113, 114, 115, 116] (hk := ?_)
            refine G.iff (h1 := fun h7 => ?_) (h2 := fun h7 => ?_)
            · try simp only [zz, bne_iff_ne, beq_iff_eq, bne_eq_false_iff_eq, beq_eq_false_iff_ne, ne_eq, gt_iff_lt, ge_iff_le] at h7
              apply G.seq
              refine G.rg tab_ok (kof_nil _) (hk := ?_)
              apply G.seq
              refine G.rg tab_ok (kof_nil _) (hk := ?_)
              apply G.seq
              apply G.seq
              refine G.rg tab_ok (kof_nil _) (hk := ?_)
              refine G.iffT (h1 := ?_)
              refine G.rgN 1 tab_ok (kof_nil _) (hk := ?_)
              refine G.cfX [0] en_l3Tokens (tok_mx bs cb gb 3 hcub (by omega) (by omega)) (h := fun y hy => ?_)
              obtain ⟨tk, ct, gt⟩ := y
              simp only at hy
              obtain ⟨htk, hcut⟩ := hy
              refine G.putX (h := ?_)
              refine G.freeze 105 7 rfl (by simp [look]) ?_
              simp only [List.set_cons_succ, List.set_cons_zero, roLL, roL, ro, roLL_iv]
              refine G.rgC tab_ok (kof_nil _) (hk := ?_)
              apply G.joinR
              · intro hk
                refine G.drawL (c := ⟨Try.prog, tab, _, _, _, _, _⟩) mixed tab_ok (kof_nil _) 11 ?_ rfl
                refine AnyL.gg (n := 5) 6 [1, 2, 3, 5, 6, 7] (h := ?_)
                refine AnyL.fk2 (n := 4) 0 8 (k1 := ?_) (k2 := ?_)
                · skip
                  refine AnyL.fk2 (n := 3) 4 8 (k1 := ?_) (k2 := ?_)
                  · skip
                    refine AnyL.gg (n := 0) 3 [8, 9, 10] (h := ?_)
                    exact AnyL.lf [0, 2, 6, 7, 8, 12, 13, 14, 15, 42, 43, 44] (hk := hk)
                  · skip
                    refine AnyL.gg (n := 0) 3 [4, 9, 10] (h := ?_)
                    exact AnyL.lf [0, 2, 6, 7, 8, 12, 13, 14, 15, 42, 43, 44] (hk := hk)
                · skip
                  refine AnyL.gg (n := 0) 4 [0, 4, 9, 10] (h := ?_)
                  exact AnyL.lf [0, 2, 6, 7, 8, 12, 13, 14, 15, 42, 43, 44] (hk := hk)
              first
              | (refine G.weakCell 6 0 4 (.row false 1 []) rfl rfl rfl (fun w S φ v f h => nil_ro h) ?_
                 simp only [withH, List.set_cons_succ, List.set_cons_zero])
              | skip
              refine G.nmM [0, 2, 6, 7, 8, 12, 13, 14, 15, 42, 43, 44] (hφ := fun m hm => first1 (show φ0.length = 1 from hφ0) hm rfl) (h := ?_)
              first
              | (have hh1 := htk
                 exact G.toFam hfam19 (⟨(j : Int), (q : Int), (F.getD a.toNat default).1, (F.getD a.toNat default).2, tk⟩, (F.take a.toNat ++ F.drop (a.toNat + 1)), ct, gt) ⟨htk, by simp only [hsl5]; omega, hcut⟩ (by simp [kv, pv, hmn]))
              | (have hh1 := d3
                 have hh2 : ¬ (F.getD a.toNat default).1 ≤ (j : Int) := d3
                 exact G.toFam hfam19 (⟨(j : Int), (q : Int), (F.getD a.toNat default).1, (F.getD a.toNat default).2, []⟩, (F.take a.toNat ++ F.drop (a.toNat + 1)), ca, ga) ⟨by simp, by simp only [hsl5]; omega, hcua⟩ (by simp [kv, pv, hmn]))
              | (have hh1 := hcub
                 exact G.toFam hfam19 (⟨(j : Int), (q : Int), -1, 0, []⟩, F, cb, gb) ⟨by simp, by simp only; omega, hcub⟩ (by simp [kv, pv]))
              | (exact G.toFam hfam19 (⟨(j : Int), (q : Int), -1, 0, []⟩, F, ca, ga) ⟨by simp, by simp only; omega, hcua⟩ (by simp [kv, pv]))
            · try simp only [zz, bne_iff_ne, beq_iff_eq, bne_eq_false_iff_eq, beq_eq_false_iff_ne, ne_eq, gt_iff_lt, ge_iff_le] at h7
              apply G.skip
              first
              | (refine G.weakCell 6 0 4 (.row false 1 []) rfl rfl rfl (fun w S φ v f h => nil_ro h) ?_
                 simp only [withH, List.set_cons_succ, List.set_cons_zero])
              | skip
              refine G.nmM [0, 2, 6, 7, 8, 12, 13, 14, 15, 42, 43, 44] (hφ := fun m hm => first1 (show φ0.length = 1 from hφ0) hm rfl) (h := ?_)
              first
              | (have hh1 := htk
                 exact G.toFam hfam19 (⟨(j : Int), (q : Int), (F.getD a.toNat default).1, (F.getD a.toNat default).2, tk⟩, (F.take a.toNat ++ F.drop (a.toNat + 1)), ct, gt) ⟨htk, by simp only [hsl5]; omega, hcut⟩ (by simp [kv, pv, hmn]))
              | (have hh1 := d3
                 have hh2 : ¬ (F.getD a.toNat default).1 ≤ (j : Int) := d3
                 exact G.toFam hfam19 (⟨(j : Int), (q : Int), (F.getD a.toNat default).1, (F.getD a.toNat default).2, []⟩, (F.take a.toNat ++ F.drop (a.toNat + 1)), ca, ga) ⟨by simp, by simp only [hsl5]; omega, hcua⟩ (by simp [kv, pv, hmn]))
              | (have hh1 := hcub
                 exact G.toFam hfam19 (⟨(j : Int), (q : Int), -1, 0, []⟩, F, cb, gb) ⟨by simp, by simp only; omega, hcub⟩ (by simp [kv, pv]))
              | (exact G.toFam hfam19 (⟨(j : Int), (q : Int), -1, 0, []⟩, F, ca, ga) ⟨by simp, by simp only; omega, hcua⟩ (by simp [kv, pv]))
          · skip
            refine G.rgN 5 tab_ok (kof_nil _) (hk := ?_)
            refine G.rdC tab_ok (kof_nil _) (hk := ?_)
            refine G.iffF (h2 := ?_)
            apply G.skip
            first
            | (refine G.weakCell 6 0 4 (.row false 1 []) rfl rfl rfl (fun w S φ v f h => nil_ro h) ?_
               simp only [withH, List.set_cons_succ, List.set_cons_zero])
            | skip
            refine G.nmM [0, 2, 6, 7, 8, 12, 13, 14, 15, 42, 43, 44] (hφ := fun m hm => first1 (show φ0.length = 1 from hφ0) hm rfl) (h := ?_)
            first
            | (have hh1 := htk
               exact G.toFam hfam19 (⟨(j : Int), (q : Int), (F.getD a.toNat default).1, (F.getD a.toNat default).2, tk⟩, (F.take a.toNat ++ F.drop (a.toNat + 1)), ct, gt) ⟨htk, by simp only [hsl5]; omega, hcut⟩ (by simp [kv, pv, hmn]))
            | (have hh1 := d3
               have hh2 : ¬ (F.getD a.toNat default).1 ≤ (j : Int) := d3
               exact G.toFam hfam19 (⟨(j : Int), (q : Int), (F.getD a.toNat default).1, (F.getD a.toNat default).2, []⟩, (F.take a.toNat ++ F.drop (a.toNat + 1)), ca, ga) ⟨by simp, by simp only [hsl5]; omega, hcua⟩ (by simp [kv, pv, hmn]))
            | (have hh1 := hcub
               exact G.toFam hfam19 (⟨(j : Int), (q : Int), -1, 0, []⟩, F, cb, gb) ⟨by simp, by simp only; omega, hcub⟩ (by simp [kv, pv]))
            | (exact G.toFam hfam19 (⟨(j : Int), (q : Int), -1, 0, []⟩, F, ca, ga) ⟨by simp, by simp only; omega, hcua⟩ (by simp [kv, pv]))
        · intro z hz
          clear hF hcu ha0 ha1 hcua htF hF2 hwF
          obtain ⟨x, F, ci, ch⟩ := z
          simp only at hz ⊢
          obtain ⟨hxt, hF, hcu⟩ := hz
          have hkp : ks2.map kv ++ [[.int .i64 x.fr, .int .i64 x.ou, .int .i64 x.to, .int .i64 x.ip, .row false 1 (x.tk.map iv)]] = (ks2 ++ [x]).map kv := by simp [kv]
          simp only [kv_eq]
          refine G.rg tab_ok (kof_nil _) (hk := ?_)
          apply G.blk
          refine G.rg tab_ok (kof_nil _) (hk := ?_)
          refine G.nmM [0, 2, 6, 7, 8, 12, 13, 14, 42, 43, 44] (hφ := fun m hm => first1 (show φ0.length = 1 from hφ0) hm rfl) (h := ?_)
          exact G.upto (hJ (F, ks2 ++ [x], ci, ch, q + 1) ⟨hF, by simp; omega, ks_add hks2 hxt, hcu, by simp only; omega⟩ (by simp only; omega)) (by simp [pv])
      · try simp only [zz, bne_iff_ne, beq_iff_eq, bne_eq_false_iff_eq, beq_eq_false_iff_ne, ne_eq, gt_iff_lt, ge_iff_le] at h4
        refine G.exit rfl ?_
        apply G.blk
        refine G.rg tab_ok (kof_nil _) (hk := ?_)
        refine G.nmM [0, 2, 6, 7, 8, 42, 43, 44] (hφ := fun m hm => first1 (show φ0.length = 1 from hφ0) hm rfl) (h := ?_)
        exact G.upto (hJ2 (F, ks2, di, dh, j + 1) ⟨hF2, by simp only; omega, hks2, hdu, by simp only; omega⟩ (by simp only; omega)) (by simp)
    · try simp only [zz, bne_iff_ne, beq_iff_eq, bne_eq_false_iff_eq, beq_eq_false_iff_ne, ne_eq, gt_iff_lt, ge_iff_le] at h3
      refine G.exit rfl ?_
      apply G.seq
      apply G.seq
      refine G.rg tab_ok (kof_nil _) (hk := ?_)
      apply G.block
      refine G.nmM [0, 6, 7, 124, 125, 126] (hφ := fun m hm => first1 (show φ0.length = 1 from hφ0) hm rfl) (h := ?_)
      refine G.loopX (fun x : List LK × Int × Int × Nat => ⟨[(0, .ptr 0 0 0), (6, .ptr 1 0 0), (7, .ptr 2 0 0), (124, .sl 3 0 F.length), (125, .int .i64 F.length), (126, .int .i64 (x.2.2.2 : Nat))], [some (3, [[.row false 1 (bs.map bv), .int .i64 (x.2.1), .int .i64 (x.2.2.1)]]), some (2, [[.nils, .nils]]), some (2, [[.row false 3 (ps.map pv), .sl 4 0 x.1.length]]), some (1, F.map fv), some (5, x.1.map kv)], 146⟩) (fun x => x.1.length ≤ 24 + x.2.2.2 ∧ KS x.1 ∧ CuOk bs x.2.1 ∧ x.2.2.2 ≤ F.length) (fun x => F.length - x.2.2.2) ((ks, ci, ch, 0)) (⟨by simp only; omega, hks, hcu, by simp⟩) (rfl) ?_
      intro x hx J hJ
      clear hK hks hcu hj hw
      obtain ⟨ks, ci, ch, j⟩ := x
      simp only at hx ⊢
      obtain ⟨hK, hks, hcu, hj⟩ := hx
      have hw : IntKind.i64.wrap ((j : Int) + 1) = ((j + 1 : Nat) : Int) := by rw [wrap64 (by omega) (by omega)]; omega
      have hb1 : ((ks.length + 1 : Nat) : Int) ≤ 4611686018427387904 := by omega
      have hb2 : (ks.length + 1) * 56 ≤ 70368744177664 := by omega
      have htK : List.take ks.length (ks.map kv) = ks.map kv := List.take_of_length_le (by simp)
      apply G.seq
      refine G.rg tab_ok (kof_nil _) (hk := ?_)
      apply G.seq
      refine G.iff (h1 := fun h10 => ?_) (h2 := fun h10 => ?_)
      · try simp only [zz, bne_iff_ne, beq_iff_eq, bne_eq_false_iff_eq, beq_eq_false_iff_ne, ne_eq, gt_iff_lt, ge_iff_le] at h10
        apply G.skip
        apply G.seq
        apply G.block
        apply G.seq
        have hjf : j < F.length := by omega
        have hgt : (F.map fv)[j]? = some (fv (F.getD j default)) := by rw [List.getElem?_map, getD_some hjf]; rfl
        have hrdf : rdCells (F.map fv) j 0 1 = some [.row false 1 [[.int .i64 (F.getD j default).1], [.int .i64 (F.getD j default).2]]] := by simp only [rdCells, hgt]; rfl
        refine G.rg tab_ok (kof_nil _) (hk := ?_)
        have hmc := l3Tokens_mc _ bs ci ch 8 rfl hcu (by omega) (by omega)
        have htk := tokS_len255 bs ci ch (m := 8) (by omega) (by omega)
        have hcu2 := tokS_cu hcu ch 8
        obtain ⟨T, hT⟩ : ∃ x, tokS bs ci ch 8 = x := ⟨_, rfl⟩
        rw [hT] at hmc htk hcu2
        obtain ⟨tk, c2, g2⟩ := T
        simp only at hmc htk hcu2
        clear hT
        refine G.drM 14 9 [0, 1, 2, 3, 4, 5, 6, 7, 8] [0] en_l3Tokens (hmc) mixed tab_ok (kof_nil _) (h := ?_)
        refine AnyL.gu (n := 0) 14 [0, 1, 2, 3, 4, 5, 6, 7, 8, 10, 11, 12, 13, 14] (h := ?_)
        refine AnyL.lf [0, 6, 7, 124, 125, 126] (hk := ?_)
        refine G.lastRo 7 4 5 (f := kv) (l := ks) (tk := tk) ⟨-1, 0, (F.getD j default).1, (F.getD j default).2, tk⟩ rfl rfl rfl (by decide) rfl ?_
        simp only [withH, List.set_cons_succ, List.set_cons_zero]
        apply G.blk
        refine G.rg tab_ok (kof_nil _) (hk := ?_)
        refine G.nmM [0, 6, 7, 124, 125, 126] (hφ := fun m hm => first1 (show φ0.length = 1 from hφ0) hm rfl) (h := ?_)
        exact G.upto (hJ (ks ++ [⟨-1, 0, (F.getD j default).1, (F.getD j default).2, tk⟩], c2, g2, j + 1) ⟨by simp; omega, ks_add hks htk, hcu2, by simp only; omega⟩ (by simp only; omega)) (by simp)
      · try simp only [zz, bne_iff_ne, beq_iff_eq, bne_eq_false_iff_eq, beq_eq_false_iff_ne, ne_eq, gt_iff_lt, ge_iff_le] at h10
        refine G.exit rfl ?_
        apply G.seq
        refine G.rg tab_ok (kof_nil _) (hk := ?_)
        refine G.nmM [0, 145, 6, 7] (hφ := fun m hm => first1 (show φ0.length = 1 from hφ0) hm rfl) (h := ?_)
        refine G.finMX (x := (ks, ci, ch)) (junk := [some (2, [[.row false 3 (ps.map pv), .sl 1 0 ks.length]]), some (2, [[.row false 3 (ps.map pv), .sl 1 0 ks.length]])]) ⟨by simp only; omega, hks, hcu⟩ tab_ok (hr := ?_) (hh := ?_) (hp := ?_) (hq := ?_) (hl := ?_)
        · rfl
        · rfl
        · rfl
        · show (refLL _ _ && (refLL _ _ && true)) = true
          rw [pureLL_ref (pureLL_kv _)]
          rfl
        · rw [hφ0]; exact Nat.le_succ _
end Go.Proofs.Ytimgfinlbhodhaa.Ab
