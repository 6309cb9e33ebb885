/- Walks of functions. -/
import Derived.Test.YtdcjlemkegifjaaGreatAbStepS
import Derived.Test.YtdcjlemkegifjaaGreatFwGk
import Derived.Test.YtdcjlemkegifjaaGreatAbAutoI
namespace Go.Proofs.YtdcjlemkegifjaaGreat.Ab
open Go
set_option linter.unusedVariables false
set_option linter.unusedSimpArgs false
set_option maxHeartbeats 4000000
theorem ok_l5Step : Kn.ok Tryz.prog (kof [(46, q_l2Want), (47, q_l5Link), (48, q_l1Copy), (49, q_l2Step)]) := kof_cons k_l2Want (kof_cons k_l5Link (kof_cons k_l1Copy (kof_cons k_l2Step ((kof_nil _)))))
theorem l5Step_mc (h : Heap) (ps : List PG) (ks : List LK) (xs : List AT) (qs : List (List Int)) (hs : List (List Int)) (t : Int) (k : Nat) (hc1 : h = [some (2, xs.map oav), some (1, qs.map ovL), some (1, hs.map ovL)]) (hc2 : stOk ps ks xs qs hs t = true) (hc3 : k < ps.length) (hc4 : canK ps ks xs qs hs t k = true) : MC Tryz.prog 20 h [.agg [.row false 3 (ps.map pv), .row false 5 (ks.map kv)], .agg [.sl 0 0 xs.length, .sl 1 0 qs.length, .sl 2 0 hs.length, .int .i64 t], .int .i64 (k : Int)] (.agg [.sl 0 0 xs.length, .sl 1 0 qs.length, .sl 2 0 hs.length, .int .i64 (t + 1)]) ([some (2, (xsK ps ks xs qs k).map oav), some (1, (qsK ps ks xs qs k).map ovL), some (1, (hsK ps ks xs hs k).map ovL)]) := by
 have e_l2Want := e_l2Want
 have e_l5Link := e_l5Link
 have e_l1Copy := e_l1Copy
 have e_l2Step := e_l2Step
 subst hc1
 have hst := stOk_w hc2
 have hnw := netOk_w hst.net
 have hp12 := hnw.pl
 have hk30 := hnw.kl
 have hx1 : xs.length ≤ ps.length := Nat.le_of_eq hst.xl
 have hx2 : ps.length ≤ xs.length := Nat.le_of_eq hst.xl.symm
 have hq1 : qs.length ≤ ks.length := Nat.le_of_eq hst.ql
 have hq2 : ks.length ≤ qs.length := Nat.le_of_eq hst.ql.symm
 have hh1 : hs.length ≤ ks.length := Nat.le_of_eq hst.hl
 have hh2 : ks.length ≤ hs.length := Nat.le_of_eq hst.hl.symm
 have ht0 := hst.t0
 have ht1 := hst.t1
 have hsq := st_q hst
 have hsh := st_h hst
 have hsa := st_a hst
 have hkw := net_KW hst.net
 have hksB : ks.length < 2513169434844 := by omega
 have hpsB : ps.length < 3518437208781 := by omega
 have hft : (false == true) = false := rfl
 have htf : (true == false) = false := rfl
 have hivl := ivL_eq
 have hro := roLL_ovL
 have hpov := pureLL_ovL
 have hnov := noLoanLL_ovL
 have hpiv := pureLL_ivL
 have hriv := roLL_ivL
 have hkp : k < ps.length := hc3
 have hkx : k < xs.length := by omega
 have hki : (k : Int) < (ps.length : Int) := by omega
 have hkj : (k : Int) < (xs.length : Int) := by omega
 have hpc := st_pc hst hkp
 have hpc0 := hpc.1
 have hpc1 := hpc.2
 clear hpc
 have hst := stOk_w hc2
 obtain ⟨hct, hcw⟩ := can_w hc4
 have hfou : ∀ x : List (List Int), List.take x.length (x.map ovL) = x.map ovL := fun x => List.take_of_length_le (by simp)
 have hrq := roLL_ovL
 have hra := roLL_oav
 have hwt : IntKind.i64.wrap (t + 1) = t + 1 := wrap64 (by omega) (by omega)
 have b00 : ((0 : Int) == 0) = true := rfl
 have b01 : ((0 : Int) == 1) = false := rfl
 have b02 : ((0 : Int) == 2) = false := rfl
 have b03 : ((0 : Int) == 3) = false := rfl
 have b10 : ((1 : Int) == 0) = false := rfl
 have b11 : ((1 : Int) == 1) = true := rfl
 have b12 : ((1 : Int) == 2) = false := rfl
 have b13 : ((1 : Int) == 3) = false := rfl
 have b20 : ((2 : Int) == 0) = false := rfl
 have b21 : ((2 : Int) == 1) = false := rfl
 have b22 : ((2 : Int) == 2) = true := rfl
 have b23 : ((2 : Int) == 3) = false := rfl
 have b30 : ((3 : Int) == 0) = false := rfl
 have b31 : ((3 : Int) == 1) = false := rfl
 have b32 : ((3 : Int) == 2) = false := rfl
 have b33 : ((3 : Int) == 3) = true := rfl
 refine MC.of tab_ok Tryz.func20 rfl (Nat.le_of_ble_eq_true rfl) fun w0 S0 fs0 φ0 hφ0 hq0 => ?_
 change G _ _ ⟨[(0, .agg [.row false 3 (ps.map pv), .row false 5 (ks.map kv)]), (1, .agg [.sl 0 0 xs.length, .sl 1 0 qs.length, .sl 2 0 hs.length, .int .i64 t]), (2, .int .i64 (k : Int))], _, 102⟩
 apply G.seq
 rcases hcw with c0 | ⟨c0, c1⟩ | ⟨c0, c1⟩
 ·skip
  obtain ⟨L, hL⟩ : ∃ x, lnkK ps ks xs k = x := ⟨_, rfl⟩
  obtain ⟨x, hxe⟩ : ∃ x, xs.getD k default = x := ⟨_, rfl⟩
  have hwn : ¬ (wAtK ps xs k).1 = 0 := by rw [c0]; decide
  obtain ⟨hlt, hreg, hop⟩ := k_reg hst hkp hwn
  have hl24 := progOk_len (pg_ok hst.net hkp)
  have hxl : x.rs.length = 4 := by rw [← hxe]; exact actOk_len (hst.act k hkp)
  have hxr : x.rs.length < 17592186044416 := by omega
  clear hxl
  unfold opK at hreg
  have htk : tokK ps ks xs qs k = 0 := by unfold tokK; rw [if_neg (by omega)]
  have hXK : xs.set k ⟨stepPc ((ps.getD k default).l.getD x.pc.toNat default) x.pc x.rs, stepRs ((ps.getD k default).l.getD x.pc.toNat default) x.rs 0⟩ = xsK ps ks xs qs k := by unfold xsK newA opK; rw [htk, hxe]
  have hWK : stepW ((ps.getD k default).l.getD x.pc.toNat default) x.rs = wrK ps xs k := by unfold wrK opK; rw [hxe]
  have hHK : hsK ps ks xs hs k = hs := by unfold hsK; rw [if_neg (by omega)]
  have hQK : qsK ps ks xs qs k = qs := by unfold qsK; rw [if_neg (by omega), if_neg (by omega)]
  rw [hxe] at hlt hreg hpc0 hpc1
  have hgea : ∀ a : List A, ((xs.map oav).set k a)[k]? = some a := fun a => List.getElem?_set_self (by rw [List.length_map]; exact hkx)
  have hrda : ∀ a b : A, rdCells ((xs.map oav).set k [a, b]) k 0 2 = some [a, b] := fun a b => by simp only [rdCells, hgea]; rfl
  have hssa : ∀ a b : List A, ((xs.map oav).set k a).set k b = (xs.map oav).set k b := fun a b => List.set_set ..
  have hroK : roLL ((xs.map oav).set k [.int .i64 x.pc, .row false 1 (x.rs.map iv)]) = xs.map av := by rw [roLL_set, roLL_oav, show roL [.int .i64 x.pc, .row false 1 (x.rs.map iv)] = av (xs.getD k default) by rw [hxe]; simp only [roL, ro, roLL_iv]; rfl, ← List.map_set, set_selfX hkx]
  have hlsa : ∀ a : List A, ((xs.map oav).set k a).length = xs.length := fun a => by rw [List.length_set, List.length_map]
  have hlsb : ∀ a : List A, List.take xs.length ((xs.map oav).set k a) = (xs.map oav).set k a := fun a => List.take_of_length_le (by rw [List.length_set, List.length_map]; exact Nat.le_refl _)
  have hwe : wantK (ps.getD k default).l x.pc = wAtK ps xs k := by rw [← hxe]; rfl
  have hrna : ∀ (s : List Nat) (c : List A), rnLL s ((xs.map oav).set k c) = (xs.map oav).set k (rnL s c) := fun s c => rnLL_set (pureLL_oav xs)
  have hrk : (xs.map oav)[k]? = some (oav x) := by rw [List.getElem?_map, getD_some hkx, hxe]; rfl
  clear hop hwn
  refine G.rg tab_ok ok_l5Step (hk := ?_)
  apply G.seq
  refine G.roCell 0 k 1 (es := xs.map oav) (e := oav x) rfl hrk rfl ?_
  simp only [withH, List.set_cons_succ, List.set_cons_zero, oav_eq, ro, roLL_iv]
  refine G.dr mixed tab_ok ok_l5Step [0, 1, 2, 3, 4, 5, 6, 7, 8, 9, 10, 11, 12, 13, 14, 15] (hk := ?_)
  apply G.seq
  refine G.rg tab_ok ok_l5Step (hk := ?_)
  apply G.seq
  refine G.rg tab_ok ok_l5Step (hk := ?_)
  apply G.seq
  apply G.seq
  refine G.rg tab_ok ok_l5Step (hk := ?_)
  refine G.iffF (h2 := ?_)
  apply G.skip
  apply G.seq
  apply G.joinR
  ·intro hk
   refine G.drawL (c := ⟨Tryz.prog, tab, _, _, _, _, _⟩) mixed tab_ok ok_l5Step 18 ?_ rfl
   refine AnyL.gg (n := 7) 11 [0, 1, 2, 3, 4, 5, 6, 7, 8, 9, 10] (h := ?_)
   refine AnyL.fk2 (n := 6) 11 15 (k1 := ?_) (k2 := ?_)
   ·refine AnyL.gg (n := 0) 6 [12, 13, 14, 15, 16, 17] (h := ?_)
    refine AnyL.nil (by kernel_rfl) ?_
    refine G.pm [2, 4, 6, 7, 9, 11, 12] [0, 1, 2, 4, 5, 7, 6] (hφ := fun m hm => first3 (show φ0.length = 3 from hφ0) hm rfl rfl rfl) (h := hk)
   ·refine AnyL.gg (n := 0) 6 [11, 12, 13, 14, 16, 17] (h := ?_)
    refine AnyL.nil (by kernel_rfl) ?_
    refine G.pm [2, 4, 6, 7, 9, 11, 12] [0, 1, 2, 4, 5, 6, 7] (hφ := fun m hm => first3 (show φ0.length = 3 from hφ0) hm rfl rfl rfl) (h := ?_)
    exact hk
  apply G.seq
  refine G.fg [2, 4, 6, 7, 9, 11, 12, 73, 74, 75, 76, 77, 78, 79, 80, 81, 82, 83, 84, 85, 86, 87, 88, 89, 90, 91, 92, 93, 94, 95, 96] (hk := ?_)
  refine G.rg tab_ok ok_l5Step (hk := ?_)
  refine G.unfocusE 0 k 1 6 (f := oav) (l := xs) ⟨stepPc ((ps.getD k default).l.getD x.pc.toNat default) x.pc x.rs, stepRs ((ps.getD k default).l.getD x.pc.toNat default) x.rs 0⟩ rfl hkx rfl rfl (by decide) (by simp [stepRs_len]) (pureLL_iv _) rfl ?_
  simp only [withH, List.set_cons_succ, List.set_cons_zero, List.nil_append, List.cons_append, List.length_cons, List.length_nil, List.length_map, Nat.zero_add, Nat.reduceAdd]
  rw [hXK]
  apply G.seq
  apply G.seq
  refine G.rg tab_ok ok_l5Step (hk := ?_)
  refine G.iffF (h2 := ?_)
  apply G.skip
  apply G.seq
  refine G.rg tab_ok ok_l5Step (hk := ?_)
  apply G.seq
  refine G.rg tab_ok ok_l5Step (hk := ?_)
  refine G.finM (junk := _) tab_ok (hr := rfl) (hh := by rw [hQK, hHK]; exact rfl) (hq := ?_) (hl := ?_)
  ·show (refLL _ _ && (refLL _ _ && (refLL _ _ && true))) = true
   rw [pureLL_ref (pureLL_oav _), pureLL_ref (pureLL_ovL _), pureLL_ref (pureLL_ovL _)]
   rfl
  ·rw [hφ0]; exact Nat.le_refl _
 ·skip
  obtain ⟨L, hL⟩ : ∃ x, lnkK ps ks xs k = x := ⟨_, rfl⟩
  obtain ⟨_, _, g1, g2⟩ := want_two hst hkp c0
  rw [← lnk_2 (ks := ks) c0, hL] at g1 g2
  rw [hL] at c1
  have g3 : L < (qs.length : Int) := by omega
  have g4 : L < (hs.length : Int) := by omega
  have g5 : L.toNat < qs.length := by omega
  have g6 : L.toNat < hs.length := by omega
  obtain ⟨q, hqe⟩ : ∃ x, qs.getD L.toNat default = x := ⟨_, rfl⟩
  rw [hqe] at c1
  have hgeq : ∀ a : List A, ((qs.map ovL).set L.toNat a)[L.toNat]? = some a := fun a => List.getElem?_set_self (by rw [List.length_map]; omega)
  have hrdq : ∀ a : A, rdCells ((qs.map ovL).set L.toNat [a]) L.toNat 0 1 = some [a] := fun a => by simp only [rdCells, hgeq]; rfl
  have hssq : ∀ a b : List A, ((qs.map ovL).set L.toNat a).set L.toNat b = (qs.map ovL).set L.toNat b := fun a b => List.set_set ..
  obtain ⟨x, hxe⟩ : ∃ x, xs.getD k default = x := ⟨_, rfl⟩
  have hwn : ¬ (wAtK ps xs k).1 = 0 := by rw [c0]; decide
  obtain ⟨hlt, hreg, hop⟩ := k_reg hst hkp hwn
  have hl24 := progOk_len (pg_ok hst.net hkp)
  have hxl : x.rs.length = 4 := by rw [← hxe]; exact actOk_len (hst.act k hkp)
  have hxr : x.rs.length < 17592186044416 := by omega
  clear hxl
  unfold opK at hreg
  have htk : tokK ps ks xs qs k = (q.getD 0 default) := by unfold tokK; rw [if_pos c0, hL, hqe]
  have hXK : xs.set k ⟨stepPc ((ps.getD k default).l.getD x.pc.toNat default) x.pc x.rs, stepRs ((ps.getD k default).l.getD x.pc.toNat default) x.rs (q.getD 0 default)⟩ = xsK ps ks xs qs k := by unfold xsK newA opK; rw [htk, hxe]
  have hWK : stepW ((ps.getD k default).l.getD x.pc.toNat default) x.rs = wrK ps xs k := by unfold wrK opK; rw [hxe]
  have hHK : hsK ps ks xs hs k = hs := by unfold hsK; rw [if_neg (by omega)]
  have hQK : qsK ps ks xs qs k = qs.set L.toNat (q.drop 1) := by unfold qsK; rw [if_pos c0, hL, hqe]
  rw [hxe] at hlt hreg hpc0 hpc1
  have hgea : ∀ a : List A, ((xs.map oav).set k a)[k]? = some a := fun a => List.getElem?_set_self (by rw [List.length_map]; exact hkx)
  have hrda : ∀ a b : A, rdCells ((xs.map oav).set k [a, b]) k 0 2 = some [a, b] := fun a b => by simp only [rdCells, hgea]; rfl
  have hssa : ∀ a b : List A, ((xs.map oav).set k a).set k b = (xs.map oav).set k b := fun a b => List.set_set ..
  have hroK : roLL ((xs.map oav).set k [.int .i64 x.pc, .row false 1 (x.rs.map iv)]) = xs.map av := by rw [roLL_set, roLL_oav, show roL [.int .i64 x.pc, .row false 1 (x.rs.map iv)] = av (xs.getD k default) by rw [hxe]; simp only [roL, ro, roLL_iv]; rfl, ← List.map_set, set_selfX hkx]
  have hlsa : ∀ a : List A, ((xs.map oav).set k a).length = xs.length := fun a => by rw [List.length_set, List.length_map]
  have hlsb : ∀ a : List A, List.take xs.length ((xs.map oav).set k a) = (xs.map oav).set k a := fun a => List.take_of_length_le (by rw [List.length_set, List.length_map]; exact Nat.le_refl _)
  have hwe : wantK (ps.getD k default).l x.pc = wAtK ps xs k := by rw [← hxe]; rfl
  have hrna : ∀ (s : List Nat) (c : List A), rnLL s ((xs.map oav).set k c) = (xs.map oav).set k (rnL s c) := fun s c => rnLL_set (pureLL_oav xs)
  have hrk : (xs.map oav)[k]? = some (oav x) := by rw [List.getElem?_map, getD_some hkx, hxe]; rfl
  clear hop hwn
  have hq0 : (q.map iv)[0]? = some [.int .i64 (q.getD 0 default)] := by rw [List.getElem?_map, getD_some c1]; rfl
  have hq1i : (0 : Int) < (q.length : Int) := by omega
  have hq1n : 1 ≤ q.length := by omega
  have hq1j : (1 : Int) ≤ (q.length : Int) := by omega
  have htq : ∀ r : List Int, List.take qs.length ((qs.set L.toNat r).map ovL) = (qs.set L.toNat r).map ovL := fun r => List.take_of_length_le (by simp)
  have hth : ∀ r : List Int, List.take hs.length ((hs.set L.toNat r).map ovL) = (hs.set L.toNat r).map ovL := fun r => List.take_of_length_le (by simp)
  have hdq : (q.map iv).drop 1 = (q.drop 1).map iv := by rw [List.map_drop]
  have hdl : q.length - 1 ≤ 1048576 := by have := hsq L.toNat g5; rw [hqe] at this; omega
  refine G.rg tab_ok ok_l5Step (hk := ?_)
  apply G.seq
  refine G.roCell 0 k 1 (es := xs.map oav) (e := oav x) rfl hrk rfl ?_
  simp only [withH, List.set_cons_succ, List.set_cons_zero, oav_eq, ro, roLL_iv]
  refine G.dr mixed tab_ok ok_l5Step [0, 1, 2, 3, 4, 5, 6, 7, 8, 9, 10, 11, 12, 13, 14, 15] (hk := ?_)
  apply G.seq
  refine G.rg tab_ok ok_l5Step (hk := ?_)
  apply G.seq
  refine G.rg tab_ok ok_l5Step (hk := ?_)
  apply G.seq
  apply G.seq
  refine G.rg tab_ok ok_l5Step (hk := ?_)
  refine G.iffT (h1 := ?_)
  apply G.seq
  have hrq1 : (qs.map ovL)[L.toNat]? = some (ovL q) := by rw [List.getElem?_map, getD_some g5, hqe]; rfl
  refine G.roCell 1 L.toNat 0 (es := qs.map ovL) (e := ovL q) rfl hrq1 rfl ?_
  simp only [withH, List.set_cons_succ, List.set_cons_zero, ovL_eq, ro, roLL_iv]
  refine G.rg tab_ok ok_l5Step (hk := ?_)
  refine G.fg [2, 3, 4, 6, 7, 9, 10, 11, 40, 41, 42, 43, 44, 45, 46, 47, 48, 49, 50, 51, 52, 53, 54, 55, 56, 57, 58, 59, 60, 61, 62, 63, 64, 65, 73, 74, 75, 76, 77, 78, 79, 80, 81, 82, 83, 84, 85, 86, 87, 88, 89, 90, 91, 92, 93, 94, 95, 96] (hk := ?_)
  refine G.dr mixed tab_ok ok_l5Step [0, 1, 2, 3, 4, 5, 6, 7, 8, 9, 10, 11] (hk := ?_)
  refine G.unfocusO 1 L.toNat 6 (r := q.drop 1) rfl rfl (by decide) (by simp) g5 ?_
  simp only [withH, List.set_cons_succ, List.set_cons_zero, List.nil_append, List.cons_append, List.length_cons, List.length_nil, List.length_map, Nat.zero_add, Nat.reduceAdd]
  apply G.seq
  apply G.joinR
  ·intro hk
   refine G.drawL (c := ⟨Tryz.prog, tab, _, _, _, _, _⟩) mixed tab_ok ok_l5Step 18 ?_ rfl
   refine AnyL.gg (n := 7) 11 [0, 1, 2, 3, 4, 5, 6, 7, 8, 9, 10] (h := ?_)
   refine AnyL.fk2 (n := 6) 11 15 (k1 := ?_) (k2 := ?_)
   ·refine AnyL.gg (n := 0) 6 [12, 13, 14, 15, 16, 17] (h := ?_)
    refine AnyL.nil (by kernel_rfl) ?_
    refine G.pm [2, 4, 6, 7, 9, 11, 12] [0, 1, 2, 4, 5, 8, 7] (hφ := fun m hm => first3 (show φ0.length = 3 from hφ0) hm rfl rfl rfl) (h := hk)
   ·refine AnyL.gg (n := 0) 6 [11, 12, 13, 14, 16, 17] (h := ?_)
    refine AnyL.nil (by kernel_rfl) ?_
    refine G.pm [2, 4, 6, 7, 9, 11, 12] [0, 1, 2, 4, 5, 7, 8] (hφ := fun m hm => first3 (show φ0.length = 3 from hφ0) hm rfl rfl rfl) (h := ?_)
    exact hk
  apply G.seq
  refine G.rg tab_ok ok_l5Step (hk := ?_)
  refine G.unfocusE 0 k 1 6 (f := oav) (l := xs) ⟨stepPc ((ps.getD k default).l.getD x.pc.toNat default) x.pc x.rs, stepRs ((ps.getD k default).l.getD x.pc.toNat default) x.rs (q.getD 0 default)⟩ rfl hkx rfl rfl (by decide) (by simp [stepRs_len]) (pureLL_iv _) rfl ?_
  simp only [withH, List.set_cons_succ, List.set_cons_zero, List.nil_append, List.cons_append, List.length_cons, List.length_nil, List.length_map, Nat.zero_add, Nat.reduceAdd]
  rw [hXK]
  apply G.seq
  apply G.seq
  refine G.fg [4, 6, 7, 9, 12, 73, 74, 75, 76, 77, 78, 79, 80, 81, 82, 83, 84, 85, 86, 87, 88, 89, 90, 91, 92, 93, 94, 95, 96] (hk := ?_)
  refine G.rg tab_ok ok_l5Step (hk := ?_)
  refine G.iffF (h2 := ?_)
  apply G.skip
  apply G.seq
  refine G.rg tab_ok ok_l5Step (hk := ?_)
  apply G.seq
  refine G.rg tab_ok ok_l5Step (hk := ?_)
  refine G.finM (junk := _) tab_ok (hr := rfl) (hh := by rw [hQK, hHK]; exact rfl) (hq := ?_) (hl := ?_)
  ·show (refLL _ _ && (refLL _ _ && (refLL _ _ && true))) = true
   rw [pureLL_ref (pureLL_oav _), pureLL_ref (pureLL_ovL _), pureLL_ref (pureLL_ovL _)]
   rfl
  ·rw [hφ0]; exact Nat.le_refl _
 ·skip
  obtain ⟨L, hL⟩ : ∃ x, lnkK ps ks xs k = x := ⟨_, rfl⟩
  obtain ⟨_, _, g1, g2⟩ := want_three hst hkp c0
  rw [← lnk_3 (ks := ks) c0, hL] at g1 g2
  rw [hL] at c1
  have g3 : L < (qs.length : Int) := by omega
  have g4 : L < (hs.length : Int) := by omega
  have g5 : L.toNat < qs.length := by omega
  have g6 : L.toNat < hs.length := by omega
  obtain ⟨q, hqe⟩ : ∃ x, qs.getD L.toNat default = x := ⟨_, rfl⟩
  obtain ⟨g, hge0⟩ : ∃ x, hs.getD L.toNat default = x := ⟨_, rfl⟩
  rw [hge0] at c1
  have hgeq : ∀ a : List A, ((qs.map ovL).set L.toNat a)[L.toNat]? = some a := fun a => List.getElem?_set_self (by rw [List.length_map]; omega)
  have hrdq : ∀ a : A, rdCells ((qs.map ovL).set L.toNat [a]) L.toNat 0 1 = some [a] := fun a => by simp only [rdCells, hgeq]; rfl
  have hssq : ∀ a b : List A, ((qs.map ovL).set L.toNat a).set L.toNat b = (qs.map ovL).set L.toNat b := fun a b => List.set_set ..
  have hgeh : ∀ a : List A, ((hs.map ovL).set L.toNat a)[L.toNat]? = some a := fun a => List.getElem?_set_self (by rw [List.length_map]; omega)
  have hrdh : ∀ a : A, rdCells ((hs.map ovL).set L.toNat [a]) L.toNat 0 1 = some [a] := fun a => by simp only [rdCells, hgeh]; rfl
  have hssh : ∀ a b : List A, ((hs.map ovL).set L.toNat a).set L.toNat b = (hs.map ovL).set L.toNat b := fun a b => List.set_set ..
  obtain ⟨x, hxe⟩ : ∃ x, xs.getD k default = x := ⟨_, rfl⟩
  have hwn : ¬ (wAtK ps xs k).1 = 0 := by rw [c0]; decide
  obtain ⟨hlt, hreg, hop⟩ := k_reg hst hkp hwn
  have hl24 := progOk_len (pg_ok hst.net hkp)
  have hxl : x.rs.length = 4 := by rw [← hxe]; exact actOk_len (hst.act k hkp)
  have hxr : x.rs.length < 17592186044416 := by omega
  clear hxl
  unfold opK at hreg
  have htk : tokK ps ks xs qs k = 0 := by unfold tokK; rw [if_neg (by omega)]
  have hXK : xs.set k ⟨stepPc ((ps.getD k default).l.getD x.pc.toNat default) x.pc x.rs, stepRs ((ps.getD k default).l.getD x.pc.toNat default) x.rs 0⟩ = xsK ps ks xs qs k := by unfold xsK newA opK; rw [htk, hxe]
  have hWK : stepW ((ps.getD k default).l.getD x.pc.toNat default) x.rs = wrK ps xs k := by unfold wrK opK; rw [hxe]
  have hHK : hsK ps ks xs hs k = hs.set L.toNat (g ++ [wrK ps xs k]) := by unfold hsK; rw [if_pos c0, hL, hge0]
  have hQK : qsK ps ks xs qs k = qs.set L.toNat (q ++ [wrK ps xs k]) := by unfold qsK; rw [if_neg (by omega), if_pos c0, hL, hqe]
  rw [hxe] at hlt hreg hpc0 hpc1
  have hgea : ∀ a : List A, ((xs.map oav).set k a)[k]? = some a := fun a => List.getElem?_set_self (by rw [List.length_map]; exact hkx)
  have hrda : ∀ a b : A, rdCells ((xs.map oav).set k [a, b]) k 0 2 = some [a, b] := fun a b => by simp only [rdCells, hgea]; rfl
  have hssa : ∀ a b : List A, ((xs.map oav).set k a).set k b = (xs.map oav).set k b := fun a b => List.set_set ..
  have hroK : roLL ((xs.map oav).set k [.int .i64 x.pc, .row false 1 (x.rs.map iv)]) = xs.map av := by rw [roLL_set, roLL_oav, show roL [.int .i64 x.pc, .row false 1 (x.rs.map iv)] = av (xs.getD k default) by rw [hxe]; simp only [roL, ro, roLL_iv]; rfl, ← List.map_set, set_selfX hkx]
  have hlsa : ∀ a : List A, ((xs.map oav).set k a).length = xs.length := fun a => by rw [List.length_set, List.length_map]
  have hlsb : ∀ a : List A, List.take xs.length ((xs.map oav).set k a) = (xs.map oav).set k a := fun a => List.take_of_length_le (by rw [List.length_set, List.length_map]; exact Nat.le_refl _)
  have hwe : wantK (ps.getD k default).l x.pc = wAtK ps xs k := by rw [← hxe]; rfl
  have hrna : ∀ (s : List Nat) (c : List A), rnLL s ((xs.map oav).set k c) = (xs.map oav).set k (rnL s c) := fun s c => rnLL_set (pureLL_oav xs)
  have hrk : (xs.map oav)[k]? = some (oav x) := by rw [List.getElem?_map, getD_some hkx, hxe]; rfl
  clear hop hwn
  have hqb : q.length ≤ 400 := by rw [← hqe]; exact hsq L.toNat g5
  have hgb : g.length ≤ 400 := by rw [← hge0]; exact hsh L.toNat g6
  have hb1 : ((q.length + 1 : Nat) : Int) ≤ 4611686018427387904 := by omega
  have hb2 : (q.length + 1) * 8 ≤ 70368744177664 := by omega
  have hb3 : ((g.length + 1 : Nat) : Int) ≤ 4611686018427387904 := by omega
  have hb4 : (g.length + 1) * 8 ≤ 70368744177664 := by omega
  have hapq : q.map iv ++ [[.int .i64 (wrK ps xs k)]] = (q ++ [wrK ps xs k]).map iv := by simp [iv]
  have hapg : g.map iv ++ [[.int .i64 (wrK ps xs k)]] = (g ++ [wrK ps xs k]).map iv := by simp [iv]
  clear hqb hgb
  have htq : ∀ r : List Int, List.take qs.length ((qs.set L.toNat r).map ovL) = (qs.set L.toNat r).map ovL := fun r => List.take_of_length_le (by simp)
  have hth : ∀ r : List Int, List.take hs.length ((hs.set L.toNat r).map ovL) = (hs.set L.toNat r).map ovL := fun r => List.take_of_length_le (by simp)
  refine G.rg tab_ok ok_l5Step (hk := ?_)
  apply G.seq
  refine G.roCell 0 k 1 (es := xs.map oav) (e := oav x) rfl hrk rfl ?_
  simp only [withH, List.set_cons_succ, List.set_cons_zero, oav_eq, ro, roLL_iv]
  refine G.dr mixed tab_ok ok_l5Step [0, 1, 2, 3, 4, 5, 6, 7, 8, 9, 10, 11, 12, 13, 14, 15] (hk := ?_)
  apply G.seq
  refine G.rg tab_ok ok_l5Step (hk := ?_)
  apply G.seq
  refine G.rg tab_ok ok_l5Step (hk := ?_)
  apply G.seq
  apply G.seq
  refine G.rg tab_ok ok_l5Step (hk := ?_)
  refine G.iffF (h2 := ?_)
  apply G.skip
  apply G.seq
  apply G.joinR
  ·intro hk
   refine G.drawL (c := ⟨Tryz.prog, tab, _, _, _, _, _⟩) mixed tab_ok ok_l5Step 18 ?_ rfl
   refine AnyL.gg (n := 7) 11 [0, 1, 2, 3, 4, 5, 6, 7, 8, 9, 10] (h := ?_)
   refine AnyL.fk2 (n := 6) 11 15 (k1 := ?_) (k2 := ?_)
   ·refine AnyL.gg (n := 0) 6 [12, 13, 14, 15, 16, 17] (h := ?_)
    refine AnyL.nil (by kernel_rfl) ?_
    refine G.pm [2, 4, 6, 7, 9, 11, 12] [0, 1, 2, 4, 5, 7, 6] (hφ := fun m hm => first3 (show φ0.length = 3 from hφ0) hm rfl rfl rfl) (h := hk)
   ·refine AnyL.gg (n := 0) 6 [11, 12, 13, 14, 16, 17] (h := ?_)
    refine AnyL.nil (by kernel_rfl) ?_
    refine G.pm [2, 4, 6, 7, 9, 11, 12] [0, 1, 2, 4, 5, 6, 7] (hφ := fun m hm => first3 (show φ0.length = 3 from hφ0) hm rfl rfl rfl) (h := ?_)
    exact hk
  apply G.seq
  refine G.fg [2, 4, 6, 7, 9, 11, 12, 73, 74, 75, 76, 77, 78, 79, 80, 81, 82, 83, 84, 85, 86, 87, 88, 89, 90, 91, 92, 93, 94, 95, 96] (hk := ?_)
  refine G.rg tab_ok ok_l5Step (hk := ?_)
  refine G.unfocusE 0 k 1 6 (f := oav) (l := xs) ⟨stepPc ((ps.getD k default).l.getD x.pc.toNat default) x.pc x.rs, stepRs ((ps.getD k default).l.getD x.pc.toNat default) x.rs 0⟩ rfl hkx rfl rfl (by decide) (by simp [stepRs_len]) (pureLL_iv _) rfl ?_
  simp only [withH, List.set_cons_succ, List.set_cons_zero, List.nil_append, List.cons_append, List.length_cons, List.length_nil, List.length_map, Nat.zero_add, Nat.reduceAdd]
  rw [hXK]
  apply G.seq
  apply G.seq
  refine G.rg tab_ok ok_l5Step (hk := ?_)
  refine G.iffT (h1 := ?_)
  apply G.seq
  refine G.focusO 1 L.toNat (outs := qs) rfl g5 ?_
  rw [hqe]
  simp only [withH, List.set_cons_succ, List.set_cons_zero, List.nil_append, List.cons_append, List.length_cons, List.length_nil, List.length_map, Nat.zero_add, Nat.reduceAdd]
  apply G.joinR
  ·intro hk
   refine G.drawL (c := ⟨Tryz.prog, tab, _, _, _, _, _⟩) mixed tab_ok ok_l5Step 13 ?_ rfl
   refine AnyL.gg (n := 5) 8 [0, 2, 3, 4, 5, 6, 7, 8] (h := ?_)
   refine AnyL.fk2 (n := 4) 1 9 (k1 := ?_) (k2 := ?_)
   ·skip
    refine AnyL.gg (n := 0) 4 [9, 10, 11, 12] (h := ?_)
    exact AnyL.lf [4, 6, 9, 12, 85, 86, 87, 88, 89, 90, 91, 92, 93, 94, 95, 96] (hk := hk)
   ·skip
    refine AnyL.fk2 (n := 3) 1 10 (k1 := ?_) (k2 := ?_)
    ·skip
     refine AnyL.gg (n := 0) 3 [10, 11, 12] (h := ?_)
     exact AnyL.lf [4, 6, 9, 12, 85, 86, 87, 88, 89, 90, 91, 92, 93, 94, 95, 96] (hk := hk)
    ·skip
     refine AnyL.gg (n := 0) 3 [1, 11, 12] (h := ?_)
     exact AnyL.lf [4, 6, 9, 12, 85, 86, 87, 88, 89, 90, 91, 92, 93, 94, 95, 96] (hk := hk)
  refine G.unfocusO 1 L.toNat 9 (r := q ++ [wrK ps xs k]) rfl rfl (by decide) (by simp) g5 ?_
  simp only [withH, List.set_cons_succ, List.set_cons_zero, List.nil_append, List.cons_append, List.length_cons, List.length_nil, List.length_map, Nat.zero_add, Nat.reduceAdd]
  refine G.focusO 2 L.toNat (outs := hs) rfl g6 ?_
  rw [hge0]
  simp only [withH, List.set_cons_succ, List.set_cons_zero, List.nil_append, List.cons_append, List.length_cons, List.length_nil, List.length_map, Nat.zero_add, Nat.reduceAdd]
  apply G.joinR
  ·intro hk
   refine G.drawL (c := ⟨Tryz.prog, tab, _, _, _, _, _⟩) mixed tab_ok ok_l5Step 13 ?_ rfl
   refine AnyL.gg (n := 5) 8 [0, 2, 3, 4, 5, 6, 7, 8] (h := ?_)
   refine AnyL.fk2 (n := 4) 1 9 (k1 := ?_) (k2 := ?_)
   ·skip
    refine AnyL.gg (n := 0) 4 [9, 10, 11, 12] (h := ?_)
    exact AnyL.lf [4, 6] (hk := hk)
   ·skip
    refine AnyL.fk2 (n := 3) 1 10 (k1 := ?_) (k2 := ?_)
    ·skip
     refine AnyL.gg (n := 0) 3 [10, 11, 12] (h := ?_)
     exact AnyL.lf [4, 6] (hk := hk)
    ·skip
     refine AnyL.gg (n := 0) 3 [1, 11, 12] (h := ?_)
     exact AnyL.lf [4, 6] (hk := hk)
  refine G.unfocusO 2 L.toNat 12 (r := g ++ [wrK ps xs k]) rfl rfl (by decide) (by simp) g6 ?_
  simp only [withH, List.set_cons_succ, List.set_cons_zero, List.nil_append, List.cons_append, List.length_cons, List.length_nil, List.length_map, Nat.zero_add, Nat.reduceAdd]
  apply G.seq
  refine G.fg [4, 6] (hk := ?_)
  refine G.rg tab_ok ok_l5Step (hk := ?_)
  apply G.seq
  refine G.rg tab_ok ok_l5Step (hk := ?_)
  refine G.finM (junk := _) tab_ok (hr := rfl) (hh := by rw [hQK, hHK]; exact rfl) (hq := ?_) (hl := ?_)
  ·show (refLL _ _ && (refLL _ _ && (refLL _ _ && true))) = true
   rw [pureLL_ref (pureLL_oav _), pureLL_ref (pureLL_ovL _), pureLL_ref (pureLL_ovL _)]
   rfl
  ·rw [hφ0]; exact Nat.le_refl _
end Go.Proofs.YtdcjlemkegifjaaGreat.Ab
