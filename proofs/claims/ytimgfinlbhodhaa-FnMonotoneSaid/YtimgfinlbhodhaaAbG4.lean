/- Walks of functions of the program: what each answers, for all arguments that meet its conditions. -/
import Derived.Test.YtimgfinlbhodhaaAbG3
import Derived.Test.YtimgfinlbhodhaaFwGc
import Derived.Test.YtimgfinlbhodhaaFwGe
namespace Go.Proofs.Ytimgfinlbhodhaa.Ab
open Go
set_option linter.unusedVariables false
set_option linter.unusedSimpArgs false
set_option maxHeartbeats 4000000
theorem l01Pick_mx (h : Heap) (bs : List Int) (i : Int) (hh : Int) (l : List ByteArray) (hc1 : h = [some (3, [[.row false 1 (bs.map bv), .int .i64 (i), .int .i64 (hh)]]), some (1, l.map sv)]) (hc2 : CuOk bs i) (hc3 : 0 < l.length) (hc4 : l.length ≤ 256) : MX Try.prog 138 (X := ByteArray × Int × Int) h [.ptr 0 0 0, .sl 1 0 l.length] (fun x => x.1 ∈ l ∧ CuOk bs x.2.1) (fun x => .str x.1) (fun x => [some (3, [[.row false 1 (bs.map bv), .int .i64 (x.2.1), .int .i64 (x.2.2)]]), some (1, l.map sv)]) := by
  subst hc1
  have hsp := pureLL_sv
  have hse := sv_eq
  refine MX.of tab_ok Try.func138 rfl (Nat.le_of_ble_eq_true rfl) fun w0 S0 fs0 φ0 hφ0 hq0 => ?_
  change G _ _ ⟨[(0, .ptr 0 0 0), (1, .sl 1 0 l.length)], _, 12⟩
  apply G.seq
  refine G.rg tab_ok (kof_nil _) (hk := ?_)
  apply G.seq
  refine G.rgN 4 tab_ok (kof_nil _) (hk := ?_)
  refine G.cfX [0] en_l01Below (below_mx bs i hh l.length hc2 (by omega) (by omega)) (h := fun y hy => ?_)
  obtain ⟨a, ca, ga⟩ := y
  simp only at hy
  obtain ⟨ha0, ha1, hcua⟩ := hy
  refine G.putX (h := ?_)
  have hal : a.toNat < l.length := by omega
  have hrds : rdCells (l.map sv) a.toNat 0 1 = some [.str (l.getD a.toNat default)] := by simp only [rdCells, List.getElem?_map, getD_some hal]; rfl
  refine G.rgC tab_ok (kof_nil _) (hk := ?_)
  refine G.finMX (x := (l.getD a.toNat default, ca, ga)) (junk := []) ⟨getD_mem0 hal, hcua⟩ tab_ok (hr := ?_) (hh := ?_) (hp := ?_) (hq := ?_) (hl := ?_)
  · rfl
  · rfl
  · rfl
  · show (refLL _ _ && (refLL _ _ && true)) = true
    rw [pureLL_ref (pureLL_sv _)]
    rfl
  · rw [hφ0]; exact Nat.le_refl _
theorem ok_l3Network : Kn.ok Try.prog (kof [(137, q_specSample), (72, q_specIsNetwork)]) := kof_cons k_specSample (kof_cons k_specIsNetwork ((kof_nil _)))
def nmS : List ByteArray := [(ByteArray.mk #[116, 104, 114, 111, 117, 103, 104]), (ByteArray.mk #[99, 111, 112, 121]), (ByteArray.mk #[115, 105, 110, 107]), (ByteArray.mk #[97, 100, 100]), (ByteArray.mk #[97, 108, 116, 101, 114, 110, 97, 116, 101]), (ByteArray.mk #[115, 112, 108, 105, 116]), (ByteArray.mk #[115, 117, 109, 115]), (ByteArray.mk #[115, 116, 101, 112, 115]), (ByteArray.mk #[116, 119, 105, 99, 101]), (ByteArray.mk #[112, 105, 99, 107])]
theorem nmS_ok {s : ByteArray} (h : s ∈ nmS) : progOk (sampleP s).1 (sampleP s).2.1 (sampleP s).2.2 = true := by
  simp only [nmS, List.mem_cons, List.not_mem_nil, or_false] at h
  rcases h with rfl | rfl | rfl | rfl | rfl | rfl | rfl | rfl | rfl | rfl <;> decide +kernel
theorem en_l01Pick : Enters Try.prog 138 := enters_of Try.func138 rfl rfl
theorem en_l2Program : Enters Try.prog 92 := enters_of Try.func92 rfl rfl
theorem en_l3Wire : Enters Try.prog 140 := enters_of Try.func140 rfl rfl
theorem l3Network_mx (h : Heap) (bs : List Int) (i : Int) (hh : Int) (m : Int) (lp : Int) (hc1 : h = [some (3, [[.row false 1 (bs.map bv), .int .i64 (i), .int .i64 (hh)]])]) (hc2 : CuOk bs i) (hc3 : 0 ≤ m) (hc4 : m ≤ 8) (hc5 : 0 < lp) (hc6 : lp ≤ 1000) : MX Try.prog 63 (X := List PG × List LK × Int × Int) h [.ptr 0 0 0, .int .i64 m, .int .i64 lp] (fun x => (netOk x.1 x.2.1 = true ∧ PO x.1 ∧ KS x.2.1 ∧ (x.1.length : Int) ≤ m) ∧ CuOk bs x.2.2.1) (fun x => .agg [.row false 3 (x.1.map pv), .sl 1 0 x.2.1.length]) (fun x => [some (3, [[.row false 1 (bs.map bv), .int .i64 (x.2.2.1), .int .i64 (x.2.2.2)]]), some (5, x.2.1.map kv)]) := by
  have e_specSample := e_specSample
  have e_specIsNetwork := e_specIsNetwork
  subst hc1
  have hw0 : IntKind.i64.wrap (m + 1) = m + 1 := wrap64 (by omega) (by omega)
  have hsp := pureLL_sv
  have hpp := pureLL_pv
  have hrp := roLL_pv
  have hnm : List.map sv nmS = [[.str (ByteArray.mk #[116, 104, 114, 111, 117, 103, 104])], [.str (ByteArray.mk #[99, 111, 112, 121])], [.str (ByteArray.mk #[115, 105, 110, 107])], [.str (ByteArray.mk #[97, 100, 100])], [.str (ByteArray.mk #[97, 108, 116, 101, 114, 110, 97, 116, 101])], [.str (ByteArray.mk #[115, 112, 108, 105, 116])], [.str (ByteArray.mk #[115, 117, 109, 115])], [.str (ByteArray.mk #[115, 116, 101, 112, 115])], [.str (ByteArray.mk #[116, 119, 105, 99, 101])], [.str (ByteArray.mk #[112, 105, 99, 107])]] := rfl
  have hnl : nmS.length = 10 := rfl
  refine MX.of tab_ok Try.func63 rfl (Nat.le_of_ble_eq_true rfl) fun w0 S0 fs0 φ0 hφ0 hq0 => ?_
  change G _ _ ⟨[(0, .ptr 0 0 0), (1, .int .i64 m), (2, .int .i64 lp)], _, 46⟩
  apply G.seq
  refine G.rg tab_ok ok_l3Network (hk := ?_)
  apply G.seq
  refine G.rg tab_ok ok_l3Network (hk := ?_)
  apply G.seq
  apply G.seq
  refine G.rgN 3 tab_ok (kof_nil _) (hk := ?_)
  refine G.cfX [0] en_l01Below (below_mx bs i hh (m + 1) hc2 (by omega) (by omega)) (h := fun y hy => ?_)
  obtain ⟨a, ca, ga⟩ := y
  simp only at hy
  obtain ⟨ha0, ha1, hcua⟩ := hy
  refine G.putX (h := ?_)
  refine G.rgC tab_ok (kof_nil _) (hk := ?_)
  apply G.block
  refine G.nmM [0, 2, 6, 7, 8] (hφ := fun m hm => first1 (show φ0.length = 1 from hφ0) hm rfl) (h := ?_)
  refine G.loopX (fun x : List PG × Int × Int × Int => ⟨[(0, .ptr 0 0 0), (2, .int .i64 lp), (6, .ptr 1 0 0), (7, .sl 2 0 x.1.length), (8, .int .i64 x.2.1)], [some (3, [[.row false 1 (bs.map bv), .int .i64 (x.2.2.1), .int .i64 (x.2.2.2)]]), some (2, [[.nils, .nils]]), some (3, x.1.map pv)], 46⟩) (fun x => (x.1.length : Int) + x.2.1 ≤ m ∧ 0 ≤ x.2.1 ∧ PO x.1 ∧ CuOk bs x.2.2.1) (fun x => x.2.1.toNat) (([], a, ca, ga)) (⟨by simp only [List.length_nil]; omega, ha0, po_nil, hcua⟩) (rfl) ?_
  intro x hx J hJ
  clear ha0 ha1 hcua
  obtain ⟨ps, z, ci, ch⟩ := x
  simp only at hx ⊢
  obtain ⟨hpm, hz, hpo, hcu⟩ := hx
  have hwz : IntKind.i64.wrap (z - 1) = z - 1 := wrap64 (by omega) (by omega)
  have hpl : ps.length ≤ 8 := by omega
  have hb1 : ((ps.length + 1 : Nat) : Int) ≤ 4611686018427387904 := by omega
  have hb2 : (ps.length + 1) * 40 ≤ 70368744177664 := by omega
  have htp : List.take ps.length (ps.map pv) = ps.map pv := List.take_of_length_le (by simp)
  apply G.seq
  apply G.seq
  refine G.rg tab_ok ok_l3Network (hk := ?_)
  refine G.iff (h1 := fun h1 => ?_) (h2 := fun h1 => ?_)
  · try simp only [zz, bne_iff_ne, beq_iff_eq, bne_eq_false_iff_eq, beq_eq_false_iff_ne, ne_eq, gt_iff_lt, ge_iff_le] at h1
    apply G.skip
    apply G.seq
    apply G.block
    apply G.seq
    refine G.rgN 2 tab_ok (kof_nil _) (hk := ?_)
    refine G.cfX [0, 3] en_l01Pick (l01Pick_mx _ bs ci ch nmS rfl hcu (by decide) (by decide)) (h := fun y hy => ?_)
    obtain ⟨s, c1, g1⟩ := y
    simp only at hy
    obtain ⟨hs, hcu1⟩ := hy
    refine G.putX (h := ?_)
    have e_s := e_specSample s
    clear e_specSample
    have hso := nmS_ok hs
    obtain ⟨S, hS⟩ : ∃ x, sampleP s = x := ⟨_, rfl⟩
    rw [hS] at hso e_s
    clear hS
    refine G.rgC tab_ok ok_l3Network (hk := ?_)
    apply G.seq
    apply G.seq
    apply G.fam (X := PG × Int × Int) (fun y => ⟨[(0, .ptr 0 0 0), (2, .int .i64 lp), (6, .ptr 1 0 0), (7, .sl 2 0 ps.length), (8, .int .i64 z), (9, .ptr 3 0 0)], [some (3, [[.row false 1 (bs.map bv), .int .i64 (y.2.1), .int .i64 (y.2.2)]]), some (2, [[.nils, .nils]]), some (3, ps.map pv), some (3, [pv y.1])], 46⟩) (fun y => progOk y.1.i y.1.o y.1.l = true ∧ CuOk bs y.2.1)
    · intro hfam6
      refine G.rgN 1 tab_ok (kof_nil _) (hk := ?_)
      refine G.cfX [0] en_l01Once (once_mx bs c1 g1 3 hcu1 (by omega)) (h := fun y hy => ?_)
      obtain ⟨b, cb, gb⟩ := y
      simp only at hy
      have hcub := hy
      refine G.putX (h := ?_)
      refine G.rgC tab_ok (kof_nil _) (hk := ?_)
      refine G.fg [0, 2, 6, 7, 8, 9, 25] (hk := ?_)
      refine G.iff (h1 := fun h2 => ?_) (h2 := fun h2 => ?_)
      · try simp only [zz, bne_iff_ne, beq_iff_eq, bne_eq_false_iff_eq, beq_eq_false_iff_ne, ne_eq, gt_iff_lt, ge_iff_le] at h2
        refine G.rgN 2 tab_ok (kof_nil _) (hk := ?_)
        refine G.cfX [0] en_l01Below (below_mx bs cb gb 2 hcub (by omega) (by omega)) (h := fun y hy => ?_)
        obtain ⟨d, cd, gd⟩ := y
        simp only at hy
        obtain ⟨hd0, hd1, hcud⟩ := hy
        refine G.putX (h := ?_)
        have hwd : IntKind.i64.wrap (1 + d) = 1 + d := wrap64 (by omega) (by omega)
        refine G.rgM 2 tab_ok (kof_nil _) (hk := ?_)
        refine G.cfX [0] en_l01Below (below_mx bs cd gd 3 hcud (by omega) (by omega)) (h := fun y hy => ?_)
        obtain ⟨e, ce, ge⟩ := y
        simp only at hy
        obtain ⟨he0, he1, hcue⟩ := hy
        refine G.putX (h := ?_)
        refine G.cfX [0] en_l2Program (l2Program_mx _ bs ce ge (1 + d) e rfl hcue (by omega) (by omega) (by omega) (by omega)) (h := fun y hy => ?_)
        obtain ⟨PL, cp, gp⟩ := y
        simp only at hy
        obtain ⟨hPo, hcup⟩ := hy
        refine G.putX (h := ?_)
        refine G.rgC tab_ok (kof_nil _) (hk := ?_)
        first
        | (refine G.cellRo 5 0 2 6 rfl rfl rfl rfl (by simp) (by decide) (pureLL_insv _) (roLL_insv _) ?_
           simp only [withH, List.set_cons_succ, List.set_cons_zero])
        | (refine G.cellRo 5 0 2 4 rfl rfl rfl rfl (by simp) (by decide) (pureLL_insv _) (roLL_insv _) ?_
           simp only [withH, List.set_cons_succ, List.set_cons_zero])
        refine G.nmM [0, 2, 6, 7, 8, 9] (hφ := fun m hm => first1 (show φ0.length = 1 from hφ0) hm rfl) (h := ?_)
        first
        | (have hh1 := hPo
           exact G.toFam hfam6 (⟨1 + d, e, PL⟩, cp, gp) ⟨hPo, hcup⟩ (by simp [pv]))
        | exact G.toFam hfam6 (⟨S.1, S.2.1, S.2.2⟩, cb, gb) ⟨hso, hcub⟩ (by simp [pv])
      · try simp only [zz, bne_iff_ne, beq_iff_eq, bne_eq_false_iff_eq, beq_eq_false_iff_ne, ne_eq, gt_iff_lt, ge_iff_le] at h2
        apply G.skip
        first
        | (refine G.cellRo 5 0 2 6 rfl rfl rfl rfl (by simp) (by decide) (pureLL_insv _) (roLL_insv _) ?_
           simp only [withH, List.set_cons_succ, List.set_cons_zero])
        | (refine G.cellRo 5 0 2 4 rfl rfl rfl rfl (by simp) (by decide) (pureLL_insv _) (roLL_insv _) ?_
           simp only [withH, List.set_cons_succ, List.set_cons_zero])
        refine G.nmM [0, 2, 6, 7, 8, 9] (hφ := fun m hm => first1 (show φ0.length = 1 from hφ0) hm rfl) (h := ?_)
        first
        | (have hh1 := hPo
           exact G.toFam hfam6 (⟨1 + d, e, PL⟩, cp, gp) ⟨hPo, hcup⟩ (by simp [pv]))
        | exact G.toFam hfam6 (⟨S.1, S.2.1, S.2.2⟩, cb, gb) ⟨hso, hcub⟩ (by simp [pv])
    · intro y hy
      obtain ⟨x, ci, ch⟩ := y
      simp only at hy ⊢
      obtain ⟨hxo, hcu⟩ := hy
      have hap : ps.map pv ++ [[.int .i64 x.i, .int .i64 x.o, .row false 4 (x.l.map insv)]] = (ps ++ [x]).map pv := by simp [pv]
      simp only [pv_eq]
      refine G.rg tab_ok ok_l3Network (hk := ?_)
      apply G.blk
      refine G.rg tab_ok ok_l3Network (hk := ?_)
      refine G.nmM [0, 2, 6, 7, 8] (hφ := fun m hm => first1 (show φ0.length = 1 from hφ0) hm rfl) (h := ?_)
      exact G.upto (hJ (ps ++ [x], z - 1, ci, ch) ⟨by simp only [List.length_append, List.length_singleton]; omega, by simp only; omega, po_add hpo hxo, hcu⟩ (by simp only; omega)) (by simp)
  · try simp only [zz, bne_iff_ne, beq_iff_eq, bne_eq_false_iff_eq, beq_eq_false_iff_ne, ne_eq, gt_iff_lt, ge_iff_le] at h1
    refine G.exit rfl ?_
    apply G.seq
    refine G.freeze 7 2 rfl (by simp [look]) ?_
    simp only [List.set_cons_succ, List.set_cons_zero, hrp]
    have hpl : ps.length ≤ 8 := by omega
    refine G.rgN 3 tab_ok (kof_nil _) (hk := ?_)
    refine G.cfX [0] en_l3Wire (l3Wire_mx _ bs ci ch ps lp rfl hcu hpl hpo hc5 hc6) (h := fun y hy => ?_)
    obtain ⟨ks, c2, g2⟩ := y
    simp only at hy
    obtain ⟨hk48, hks, hcu2⟩ := hy
    refine G.putX (h := ?_)
    refine G.rgC tab_ok (kof_nil _) (hk := ?_)
    apply G.seq
    apply G.seq
    have hnw := po_nw hpo
    have hkw := ks_kw hks
    have hpq : ps.length < 3518437208781 := by omega
    have hkq : ks.length < 2513169434844 := by omega
    have htk : List.take ks.length (ks.map kv) = ks.map kv := List.take_of_length_le (by simp)
    refine G.rg tab_ok ok_l3Network (hk := ?_)
    refine G.fg [6, 10, 43] (hk := ?_)
    refine G.iff (h1 := fun h3 => ?_) (h2 := fun h3 => ?_)
    · try simp only [zz, bne_iff_ne, beq_iff_eq, bne_eq_false_iff_eq, beq_eq_false_iff_ne, ne_eq, gt_iff_lt, ge_iff_le] at h3
      apply G.seq
      refine G.rg tab_ok ok_l3Network (hk := ?_)
      refine G.weakCell 1 0 0 (.row false 3 []) rfl rfl rfl (fun w S φ v f h => nil_ro h) ?_
      simp only [withH, List.set_cons_succ, List.set_cons_zero]
      refine G.focusNil 1 0 1 5 rfl rfl rfl ?_
      simp only [withH, List.set_cons_succ, List.set_cons_zero, List.cons_append, List.nil_append, List.length_cons, List.length_nil]
      refine G.permM [0, 6] [0, 5, 1] (by simp) (fun m hm => first1 (show φ0.length = 1 from hφ0) hm rfl) rfl ?_
      refine G.finMX (x := ([], [], c2, g2)) (junk := [some (2, [[.row false 3 [], .sl 1 0 0]])]) ⟨⟨rfl, po_nil, ks_nil, by simp only [List.length_nil]; omega⟩, hcu2⟩ tab_ok (hr := ?_) (hh := ?_) (hp := ?_) (hq := ?_) (hl := ?_)
      · rfl
      · rfl
      · rfl
      · show (refLL _ _ && (refLL _ _ && true)) = true
        rw [pureLL_ref (pureLL_kv _)]
        rfl
      · rw [hφ0]; exact Nat.le_succ _
    · try simp only [zz, bne_iff_ne, beq_iff_eq, bne_eq_false_iff_eq, beq_eq_false_iff_ne, ne_eq, gt_iff_lt, ge_iff_le] at h3
      apply G.skip
      apply G.seq
      refine G.rg tab_ok ok_l3Network (hk := ?_)
      refine G.pm [45, 6] [0, 3, 1] (hφ := fun m hm => first1 (show φ0.length = 1 from hφ0) hm rfl) (h := ?_)
      refine G.finMX (x := (ps, ks, c2, g2)) (junk := [some (2, [[.row false 3 (ps.map pv), .sl 1 0 ks.length]])]) ⟨⟨by simpa using h3, hpo, hks, by simp only; omega⟩, hcu2⟩ tab_ok (hr := ?_) (hh := ?_) (hp := ?_) (hq := ?_) (hl := ?_)
      · rfl
      · rfl
      · rfl
      · show (refLL _ _ && (refLL _ _ && true)) = true
        rw [pureLL_ref (pureLL_kv _)]
        rfl
      · rw [hφ0]; exact Nat.le_succ _
end Go.Proofs.Ytimgfinlbhodhaa.Ab
