/- Walks of functions of the program, and the plain definitions. -/
import Derived.Test.YtimgfinlbhodhaaAbCur
import Derived.Test.YtimgfinlbhodhaaFwGc
import Derived.Test.YtimgfinlbhodhaaAbByt
namespace Go.Proofs.Ytimgfinlbhodhaa.Ab
open Go
set_option linter.unusedVariables false
set_option linter.unusedSimpArgs false
set_option maxHeartbeats 4000000
theorem l01Byte_mc (h : Heap) (bs : List Int) (i : Int) (hh : Int) (hc1 : h = [some (3, [[.row false 1 (bs.map bv), .int .i64 (i), .int .i64 (hh)]])]) (hc2 : CuOk bs i) : MC Try.prog 153 h [.ptr 0 0 0] (.int .i64 (curB bs i hh).1) ([some (3, [[.row false 1 (bs.map bv), .int .i64 ((curB bs i hh).2.1), .int .i64 ((curB bs i hh).2.2)]])]) := by
 subst hc1
 have hand := andI_eq
 have hxor := xorI_eq
 have hb33 : min 33 IntKind.i64.bits = 33 := by decide
 have hb45 : min 45 IntKind.i64.bits = 45 := by decide
 have hl := hc2.l
 have hi0 := hc2.i0
 have hi1 := hc2.i1
 refine MC.of tab_ok Try.func153 rfl (Nat.le_of_ble_eq_true rfl) fun w0 S0 fs0 φ0 hφ0 hq0 => ?_
 change G _ _ ⟨[(0, .ptr 0 0 0)], _, 58⟩
 apply G.seq
 refine G.rg tab_ok (kof_nil _) (hk := ?_)
 apply G.seq
 refine G.rg tab_ok (kof_nil _) (hk := ?_)
 apply G.seq
 refine G.dr mixed tab_ok (kof_nil _) [0, 1, 2, 3, 4, 5, 6, 7, 8, 9, 10, 11, 12] (hk := ?_)
 apply G.seq
 apply G.seq
 refine G.dr mixed tab_ok (kof_nil _) [0, 1, 2, 3, 4, 5, 6, 7, 8, 9] (hk := ?_)
 refine G.fg [0, 3, 34, 35, 36, 37, 38, 39, 40, 41, 42, 43, 44, 45, 46, 47, 48] (hk := ?_)
 refine G.iff (h1 := fun h1 => ?_) (h2 := fun h1 => ?_)
 ·try simp only [zqz] at h1
  apply G.seq
  have hk : i.toNat < bs.length := by omega
  have hby := hc2.w.ok _ (List.getElem_mem hk)
  have hbe : bs.getD i.toNat default = bs[i.toNat] := by rw [List.getD_eq_getElem?_getD, List.getElem?_eq_getElem hk]; rfl
  have hget : (List.map bv bs)[i.toNat]? = some [.int .u8 bs[i.toNat]] := by simp [hk, bv]
  have hwx : IntKind.i64.wrap bs[i.toNat] = bs[i.toNat] := wrap64 (by omega) (by omega)
  have hw : IntKind.i64.wrap (i + 1) = i + 1 := wrap64 (by omega) (by omega)
  refine G.dr mixed tab_ok (kof_nil _) [0, 1, 2, 3, 4, 5, 6, 7, 8, 9, 10, 11, 12, 13, 14] (hk := ?_)
  refine G.rg tab_ok (kof_nil _) (hk := ?_)
  apply G.seq
  refine G.rg tab_ok (kof_nil _) (hk := ?_)
  refine G.finM (junk := []) tab_ok (hr := ?_) (hh := ?_) (hq := ?_) (hl := ?_)
  ·rw [curB_in h1 hk]; rfl
  ·rw [curB_in h1 hk]; rfl
  ·rfl
  ·rw [hφ0]; exact Nat.le_refl _
 ·try simp only [zqz] at h1
  apply G.skip
  apply G.seq
  refine G.rg tab_ok (kof_nil _) (hk := ?_)
  refine G.finM (junk := []) tab_ok (hr := ?_) (hh := ?_) (hq := ?_) (hl := ?_)
  ·rw [curB_out (by omega)]; rfl
  ·rw [curB_out (by omega)]; rfl
  ·rfl
  ·rw [hφ0]; exact Nat.le_refl _
theorem en_l01Byte : Enters Try.prog 153 := enters_of Try.func153 rfl rfl
theorem l01Below_mc (h : Heap) (bs : List Int) (i : Int) (hh : Int) (n : Int) (hc1 : h = [some (3, [[.row false 1 (bs.map bv), .int .i64 (i), .int .i64 (hh)]])]) (hc2 : CuOk bs i) (hc3 : n ≤ 256) : MC Try.prog 86 h [.ptr 0 0 0, .int .i64 n] (.int .i64 (bel bs i hh n).1) ([some (3, [[.row false 1 (bs.map bv), .int .i64 ((bel bs i hh n).2.1), .int .i64 ((bel bs i hh n).2.2)]])]) := by
 subst hc1
 refine MC.of tab_ok Try.func86 rfl (Nat.le_of_ble_eq_true rfl) fun w0 S0 fs0 φ0 hφ0 hq0 => ?_
 change G _ _ ⟨[(0, .ptr 0 0 0), (1, .int .i64 n)], _, 37⟩
 apply G.seq
 refine G.rg tab_ok (kof_nil _) (hk := ?_)
 apply G.seq
 apply G.seq
 refine G.rg tab_ok (kof_nil _) (hk := ?_)
 refine G.iff (h1 := fun h1 => ?_) (h2 := fun h1 => ?_)
 ·try simp only [zqz] at h1
  apply G.seq
  refine G.rg tab_ok (kof_nil _) (hk := ?_)
  refine G.finM (junk := []) tab_ok (hr := ?_) (hh := ?_) (hq := ?_) (hl := ?_)
  ·rw [bel_neg h1]; rfl
  ·rw [bel_neg h1]; rfl
  ·rfl
  ·rw [hφ0]; exact Nat.le_refl _
 ·try simp only [zqz] at h1
  apply G.skip
  apply G.seq
  apply G.seq
  refine G.rg tab_ok (kof_nil _) (hk := ?_)
  refine G.iffT (h1 := ?_)
  apply G.seq
  have hn0 : ¬ n = 0 := by omega
  refine G.rgN 1 tab_ok (kof_nil _) (hk := ?_)
  refine G.cf [0] en_l01Byte (l01Byte_mc _ bs i hh rfl hc2) (h := ?_)
  refine G.rgC tab_ok (kof_nil _) (hk := ?_)
  refine G.finM (junk := []) tab_ok (hr := ?_) (hh := ?_) (hq := ?_) (hl := ?_)
  ·rw [bel_pos h1]; rfl
  ·rw [bel_pos h1]; rfl
  ·rfl
  ·rw [hφ0]; exact Nat.le_refl _
theorem en_l01Below : Enters Try.prog 86 := enters_of Try.func86 rfl rfl
theorem l01Once_mc (h : Heap) (bs : List Int) (i : Int) (hh : Int) (n : Int) (hc1 : h = [some (3, [[.row false 1 (bs.map bv), .int .i64 (i), .int .i64 (hh)]])]) (hc2 : CuOk bs i) (hc3 : n ≤ 256) : MC Try.prog 139 h [.ptr 0 0 0, .int .i64 n] (.bool ((bel bs i hh n).1 == 0)) ([some (3, [[.row false 1 (bs.map bv), .int .i64 ((bel bs i hh n).2.1), .int .i64 ((bel bs i hh n).2.2)]])]) := by
 subst hc1
 refine MC.of tab_ok Try.func139 rfl (Nat.le_of_ble_eq_true rfl) fun w0 S0 fs0 φ0 hφ0 hq0 => ?_
 change G _ _ ⟨[(0, .ptr 0 0 0), (1, .int .i64 n)], _, 9⟩
 apply G.seq
 refine G.rg tab_ok (kof_nil _) (hk := ?_)
 apply G.seq
 refine G.rgN 2 tab_ok (kof_nil _) (hk := ?_)
 refine G.cf [0] en_l01Below (l01Below_mc _ bs i hh n rfl hc2 hc3) (h := ?_)
 refine G.rgC tab_ok (kof_nil _) (hk := ?_)
 refine G.finM (junk := []) tab_ok (hr := ?_) (hh := ?_) (hq := ?_) (hl := ?_)
 ·rfl
 ·rfl
 ·rfl
 ·rw [hφ0]; exact Nat.le_refl _
theorem l01Int_mc (h : Heap) (bs : List Int) (i : Int) (hh : Int) (l : List Int) (hc1 : h = [some (3, [[.row false 1 (bs.map bv), .int .i64 (i), .int .i64 (hh)]]), some (1, l.map iv)]) (hc2 : CuOk bs i) (hc3 : 0 < l.length) (hc4 : l.length ≤ 256) : MC Try.prog 64 h [.ptr 0 0 0, .sl 1 0 l.length] (.int .i64 (l.getD (bel bs i hh l.length).1.toNat default)) ([some (3, [[.row false 1 (bs.map bv), .int .i64 ((bel bs i hh l.length).2.1), .int .i64 ((bel bs i hh l.length).2.2)]]), some (1, l.map iv)]) := by
 subst hc1
 have hk := bel_ok bs i hh (n := (l.length : Int)) (by omega)
 have hk2 : (bel bs i hh (l.length : Int)).1.toNat < l.length := by omega
 have hk0 := hk.1
 have hk1 := hk.2
 clear hk
 refine MC.of tab_ok Try.func64 rfl (Nat.le_of_ble_eq_true rfl) fun w0 S0 fs0 φ0 hφ0 hq0 => ?_
 change G _ _ ⟨[(0, .ptr 0 0 0), (1, .sl 1 0 l.length)], _, 12⟩
 apply G.seq
 refine G.rg tab_ok (kof_nil _) (hk := ?_)
 apply G.seq
 refine G.rgN 4 tab_ok (kof_nil _) (hk := ?_)
 refine G.cf [0] en_l01Below (l01Below_mc _ bs i hh l.length rfl hc2 (by omega)) (h := ?_)
 refine G.rgC tab_ok (kof_nil _) (hk := ?_)
 refine G.finM (junk := []) tab_ok (hr := ?_) (hh := ?_) (hq := ?_) (hl := ?_)
 ·rfl
 ·rfl
 ·show (refLL _ _ && (refLL _ _ && true)) = true
  rw [pureLL_ref (pureLL_iv _)]
  rfl
 ·rw [hφ0]; exact Nat.le_refl _
theorem en_l01Once : Enters Try.prog 139 := enters_of Try.func139 rfl rfl
theorem en_l01Int : Enters Try.prog 64 := enters_of Try.func64 rfl rfl
theorem l1Some_mc (h : Heap) (bs : List Int) (i : Int) (hh : Int) (hc1 : h = [some (3, [[.row false 1 (bs.map bv), .int .i64 (i), .int .i64 (hh)]])]) (hc2 : CuOk bs i) : MC Try.prog 157 h [.ptr 0 0 0] (.int .i64 (someT bs i hh).1) ([some (3, [[.row false 1 (bs.map bv), .int .i64 ((someT bs i hh).2.1), .int .i64 ((someT bs i hh).2.2)]])]) := by
 subst hc1
 refine MC.of tab_ok Try.func157 rfl (Nat.le_of_ble_eq_true rfl) fun w0 S0 fs0 φ0 hφ0 hq0 => ?_
 change G _ _ ⟨[(0, .ptr 0 0 0)], _, 11⟩
 apply G.seq
 refine G.rg tab_ok (kof_nil _) (hk := ?_)
 apply G.seq
 apply G.seq
 refine G.rgN 1 tab_ok (kof_nil _) (hk := ?_)
 refine G.cf [0] en_l01Once (l01Once_mc _ bs i hh 9 rfl hc2 (by omega)) (h := ?_)
 refine G.rgC tab_ok (kof_nil _) (hk := ?_)
 refine G.iff (h1 := fun h1 => ?_) (h2 := fun h1 => ?_)
 ·try simp only [zqz] at h1
  apply G.seq
  refine G.rgN 2 tab_ok (kof_nil _) (hk := ?_)
  refine G.cf [0, 1] en_l01Int (l01Int_mc _ bs (bel bs i hh 9).2.1 (bel bs i hh 9).2.2 [999999, -999999, 999998, 500000, -500000] rfl (bel_cu hc2 _ _) (by decide) (by decide)) (h := ?_)
  refine G.rgC tab_ok (kof_nil _) (hk := ?_)
  refine G.finM (junk := [some (1, [999999, -999999, 999998, 500000, -500000].map iv)]) tab_ok (hr := ?_) (hh := ?_) (hq := ?_) (hl := ?_)
  ·rw [someT_y h1]; rfl
  ·rw [someT_y h1]; rfl
  ·rfl
  ·rw [hφ0]; exact Nat.le_refl _
 ·try simp only [zqz] at h1
  apply G.skip
  apply G.seq
  have hk := bel_ok bs (bel bs i hh 9).2.1 (bel bs i hh 9).2.2 (n := 15) (by omega)
  have hw : IntKind.i64.wrap ((bel bs (bel bs i hh 9).2.1 (bel bs i hh 9).2.2 15).1 - 5) = (bel bs (bel bs i hh 9).2.1 (bel bs i hh 9).2.2 15).1 - 5 := wrap64 (by omega) (by omega)
  refine G.rgN 1 tab_ok (kof_nil _) (hk := ?_)
  refine G.cf [0] en_l01Below (l01Below_mc _ bs (bel bs i hh 9).2.1 (bel bs i hh 9).2.2 15 rfl (bel_cu hc2 _ _) (by omega)) (h := ?_)
  refine G.rgC tab_ok (kof_nil _) (hk := ?_)
  refine G.finM (junk := []) tab_ok (hr := ?_) (hh := ?_) (hq := ?_) (hl := ?_)
  ·rw [someT_n h1]; rfl
  ·rw [someT_n h1]; rfl
  ·rfl
  ·rw [hφ0]; exact Nat.le_refl _
theorem en_l1Some : Enters Try.prog 157 := enters_of Try.func157 rfl rfl
theorem l3Tokens_mc (h : Heap) (bs : List Int) (i : Int) (hh : Int) (m : Int) (hc1 : h = [some (3, [[.row false 1 (bs.map bv), .int .i64 (i), .int .i64 (hh)]])]) (hc2 : CuOk bs i) (hc3 : 0 ≤ m) (hc4 : m ≤ 255) : MC Try.prog 93 h [.ptr 0 0 0, .int .i64 m] (.sl 1 0 (tokS bs i hh m).1.length) ([some (3, [[.row false 1 (bs.map bv), .int .i64 ((tokS bs i hh m).2.1), .int .i64 ((tokS bs i hh m).2.2)]]), some (1, (tokS bs i hh m).1.map iv)]) := by
 subst hc1
 have hw : IntKind.i64.wrap (m + 1) = m + 1 := wrap64 (by omega) (by omega)
 have hk := bel_ok bs i hh (n := m + 1) (by omega)
 have hcu := bel_cu hc2 hh (m + 1)
 obtain ⟨i1, hi1⟩ : ∃ x, (bel bs i hh (m + 1)).2.1 = x := ⟨_, rfl⟩
 obtain ⟨h1', hh1⟩ : ∃ x, (bel bs i hh (m + 1)).2.2 = x := ⟨_, rfl⟩
 obtain ⟨K, hK⟩ : ∃ x, (bel bs i hh (m + 1)).1 = x := ⟨_, rfl⟩
 rw [hK] at hk
 rw [hi1] at hcu
 have hS : tokS bs i hh m = toksN bs i1 h1' K.toNat := by unfold tokS; rw [hi1, hh1, hK]
 have hk0 := hk.1
 have hk1 := hk.2
 clear hk
 refine MC.of tab_ok Try.func93 rfl (Nat.le_of_ble_eq_true rfl) fun w0 S0 fs0 φ0 hφ0 hq0 => ?_
 change G _ _ ⟨[(0, .ptr 0 0 0), (1, .int .i64 m)], _, 22⟩
 apply G.seq
 refine G.rg tab_ok (kof_nil _) (hk := ?_)
 apply G.seq
 refine G.rg tab_ok (kof_nil _) (hk := ?_)
 apply G.seq
 apply G.seq
 refine G.rgN 3 tab_ok (kof_nil _) (hk := ?_)
 refine G.cf [0] en_l01Below (l01Below_mc _ bs i hh (m + 1) rfl hc2 (by omega)) (h := ?_)
 refine G.rgC tab_ok (kof_nil _) (hk := ?_)
 apply G.block
 refine G.nmM [0, 5, 6] (hφ := fun m hm => first1 (show φ0.length = 1 from hφ0) hm rfl) (h := ?_)
 refine G.loopX (fun j : Nat => ⟨[(0, .ptr 0 0 0), (5, .sl 1 0 (toksN bs i1 h1' j).1.length), (6, .int .i64 (K - (j : Int)))], [some (3, [[.row false 1 (bs.map bv), .int .i64 ((toksN bs i1 h1' j).2.1), .int .i64 ((toksN bs i1 h1' j).2.2)]]), some (1, (toksN bs i1 h1' j).1.map iv)], 22⟩) (fun j => j ≤ K.toNat) (fun j => K.toNat - j) (0) (Nat.zero_le _) (by simp [toksN]) ?_
 intro j hj J hJ
 have hw2 : IntKind.i64.wrap (K - (j : Int) - 1) = K - (j : Int) - 1 := wrap64 (by omega) (by omega)
 have hlb : (toksN bs i1 h1' j).1.length ≤ 256 := by rw [toksN_len]; omega
 have hlt : List.take (toksN bs i1 h1' j).1.length ((toksN bs i1 h1' j).1.map iv) = (toksN bs i1 h1' j).1.map iv := List.take_of_length_le (by simp)
 apply G.seq
 apply G.seq
 refine G.rg tab_ok (kof_nil _) (hk := ?_)
 refine G.iff (h1 := fun h1 => ?_) (h2 := fun h1 => ?_)
 ·try simp only [zqz] at h1
  apply G.skip
  apply G.seq
  apply G.block
  have hlb1 : (((toksN bs i1 h1' j).1.length + 1 : Nat) : Int) ≤ 4611686018427387904 := by omega
  have hlb2 : ((toksN bs i1 h1' j).1.length + 1) * 8 ≤ 70368744177664 := by omega
  refine G.rgN 2 tab_ok (kof_nil _) (hk := ?_)
  refine G.cf [0] en_l1Some (l1Some_mc _ bs (toksN bs i1 h1' j).2.1 (toksN bs i1 h1' j).2.2 rfl (toksN_cu hcu h1' j)) (h := ?_)
  refine G.rgC tab_ok (kof_nil _) (hk := ?_)
  apply G.blk
  refine G.rg tab_ok (kof_nil _) (hk := ?_)
  refine G.nmM [0, 5, 6] (hφ := fun m hm => first1 (show φ0.length = 1 from hφ0) hm rfl) (h := ?_)
  exact G.upto (hJ (j + 1) (by omega) (by omega)) (by simp [toksN]; exact ⟨by omega, rfl⟩)
 ·try simp only [zqz] at h1
  refine G.exit rfl ?_
  apply G.seq
  refine G.rg tab_ok (kof_nil _) (hk := ?_)
  obtain rfl : j = K.toNat := by omega
  rw [hS]
  refine G.finM (junk := []) tab_ok (hr := ?_) (hh := ?_) (hq := ?_) (hl := ?_)
  ·rfl
  ·rfl
  ·show (refLL _ _ && (refLL _ _ && true)) = true
   rw [pureLL_ref (pureLL_iv _)]
   rfl
  ·rw [hφ0]; exact Nat.le_succ _
theorem l01New_ac (bs : List Int) (hc1 : BW bs) (hc2 : bs.length < 1099511627776) : AC Try.prog 62 [.row false 1 (bs.map bv)] (.box [.row false 1 (bs.map bv), .int .i64 0, .int .i64 (newH bs (min bs.length 4000))]) := by
 have hand := andI_eq
 refine AC.of tab_ok Try.func62 rfl (Nat.le_of_ble_eq_true rfl) fun w0 S0 => ?_
 change G _ _ ⟨[(0, .row false 1 (bs.map bv))], [], 32⟩
 apply G.seq
 refine G.rg tab_ok (kof_nil _) (hk := ?_)
 apply G.seq
 refine G.rg tab_ok (kof_nil _) (hk := ?_)
 apply G.seq
 apply G.seq
 refine G.rg tab_ok (kof_nil _) (hk := ?_)
 apply G.block
 refine G.cn [0, 3, 4] [] (h := ?_)
 refine G.loopX (fun j : Nat => ⟨[(0, .row false 1 (bs.map bv)), (3, .int .i64 (newH bs j)), (4, .int .i64 j)], [], 32⟩) (fun j => j ≤ min bs.length 4000) (fun j => bs.length - j) (0) (Nat.zero_le _) (by simp [newH]) ?_
 intro j hj J hJ
 have hw : IntKind.i64.wrap ((j : Int) + 1) = (j : Int) + 1 := wrap64 (by omega) (by omega)
 apply G.seq
 apply G.seq
 refine G.rg tab_ok (kof_nil _) (hk := ?_)
 refine G.iff (h1 := fun h1 => ?_) (h2 := fun h1 => ?_)
 ·try simp only [zqz] at h1
  apply G.skip
  apply G.seq
  apply G.block
  have hk : j < bs.length := by omega
  have hby := hc1.ok _ (List.getElem_mem hk)
  have hbe : bs.getD j default = bs[j] := by rw [List.getD_eq_getElem?_getD, List.getElem?_eq_getElem hk]; rfl
  have hget : (List.map bv bs)[j]? = some [.int .u8 bs[j]] := by simp [hk, bv]
  have hwx : IntKind.i64.wrap bs[j] = bs[j] := wrap64 (by omega) (by omega)
  refine G.rg tab_ok (kof_nil _) (hk := ?_)
  apply G.blk
  refine G.rg tab_ok (kof_nil _) (hk := ?_)
  refine G.cn [0, 3, 4] [] (h := ?_)
  exact G.upto (hJ (j + 1) (by omega) (by omega)) (by simp only [newH, hbe]; simp)
 ·try simp only [zqz] at h1
  refine G.exit rfl ?_
  apply G.seq
  refine G.rg tab_ok (kof_nil _) (hk := ?_)
  refine G.fin tab_ok (hr := ?_)
  obtain rfl : j = min bs.length 4000 := by omega
  rfl
def r_l01New (xs0 : List A) (rr : A) : Prop := ∃ (bs : List Int), (BW bs) ∧ (bs.length < 1099511627776) ∧ xs0 = [.row false 1 (bs.map bv)] ∧ rr = .box [.row false 1 (bs.map bv), .int .i64 0, .int .i64 (newH bs (min bs.length 4000))]
noncomputable def q_l01New : List A → Option A := kgr r_l01New
theorem k_l01New : KOk Try.prog (62, q_l01New) := kgr_ok (enters_of Try.func62 rfl rfl) (by rintro xs0 rr ⟨bs, hc1, hc2, rfl, rfl⟩; exact l01New_ac bs hc1 hc2)
theorem e_l01New : ∀ (bs : List Int), (BW bs) → (bs.length < 1099511627776) → q_l01New [.row false 1 (bs.map bv)] = some (.box [.row false 1 (bs.map bv), .int .i64 0, .int .i64 (newH bs (min bs.length 4000))]) := by
 intro bs hc1 hc2
 refine kgr_eq (fun xs0 rr r2 h h2 => ?_) ⟨bs, hc1, hc2, rfl, rfl⟩
 obtain ⟨bs1, _, _, e1, rfl⟩ := h; obtain ⟨bs2, _, _, e2, rfl⟩ := h2
 rw [e1] at e2
 simp only [List.cons.injEq, A.int.injEq, A.row.injEq, bv_inj, true_and, and_true] at e2
 simp [e2]
theorem en_l3Tokens : Enters Try.prog 93 := enters_of Try.func93 rfl rfl
theorem lawFresh_ac (bs : List Int) (c : Int) (hc1 : BW bs) (hc2 : bs.length < 1099511627776) (hc3 : 0 ≤ c) (hc4 : c ≤ 1000000) : AC Try.prog 23 [.row false 1 (bs.map bv), .int .i64 c] (.row true 1 ((mkFresh bs c).map bv)) := by
 have hbv1 := roLL_bv
 have hbv2 := noLoanLL_bv
 have hbv3 := copyable_bv
 have hbv4 := pureLL_bv
 have hbv5 := rnLL_bv
 have hbv6 := refsLL_bv
 have hbv7 := bv_eq
 refine AC.of tab_ok Try.func23 rfl (Nat.le_of_ble_eq_true rfl) fun w0 S0 => ?_
 change G _ _ ⟨[(0, .row false 1 (bs.map bv)), (1, .int .i64 c)], [], 37⟩
 apply G.seq
 refine G.rg tab_ok (kof_nil _) (hk := ?_)
 apply G.seq
 refine G.rg tab_ok (kof_nil _) (hk := ?_)
 apply G.seq
 apply G.seq
 refine G.rg tab_ok (kof_nil _) (hk := ?_)
 apply G.block
 refine G.nm [0, 1, 5, 6] (h := ?_)
 refine G.loopX (fun j : Nat => ⟨[(0, .row false 1 (bs.map bv)), (1, .int .i64 c), (5, .sl 0 0 (freshL bs c j).length), (6, .int .i64 j)], [some (1, (freshL bs c j).map bv)], 37⟩) (fun j => j ≤ min bs.length 600) (fun j => bs.length - j) (0) (Nat.zero_le _) (by simp [freshL, bv]) ?_
 intro j hj J hJ
 have hw : IntKind.i64.wrap ((j : Int) + 1) = (j : Int) + 1 := wrap64 (by omega) (by omega)
 have hlb : (freshL bs c j).length ≤ 601 := by rw [freshL_len]; omega
 have hlt : List.take (freshL bs c j).length ((freshL bs c j).map bv) = (freshL bs c j).map bv := List.take_of_length_le (by simp)
 have hq1 : (((freshL bs c j).length + 1 : Nat) : Int) ≤ 4611686018427387904 := by omega
 have hq2 : (freshL bs c j).length + 1 ≤ 70368744177664 := by omega
 apply G.seq
 apply G.seq
 refine G.rg tab_ok (kof_nil _) (hk := ?_)
 refine G.iff (h1 := fun h1 => ?_) (h2 := fun h1 => ?_)
 ·try simp only [zqz] at h1
  apply G.skip
  apply G.seq
  apply G.block
  have hk : j < bs.length := by omega
  have hby := hc1.ok _ (List.getElem_mem hk)
  have hbe : bs.getD j default = bs[j] := by rw [List.getD_eq_getElem?_getD, List.getElem?_eq_getElem hk]; rfl
  have hget : (List.map bv bs)[j]? = some [.int .u8 bs[j]] := by simp [hk, bv]
  have hwx : IntKind.i64.wrap bs[j] = bs[j] := wrap64 (by omega) (by omega)
  have hm7 : (j : Int).tmod 7 = ((j % 7 : Nat) : Int) := by rw [Int.tmod_eq_emod_of_nonneg (by omega)]; omega
  have hw1 : IntKind.i64.wrap (bs[j] * 3) = bs[j] * 3 := wrap64 (by omega) (by omega)
  have hw2 : IntKind.i64.wrap (((j % 7 : Nat) : Int) + 1) = ((j % 7 : Nat) : Int) + 1 := wrap64 (by omega) (by omega)
  have hmc := mul_cc (a := c) (b := ((j % 7 : Nat) : Int) + 1) (M := 1000000) (N := 7) (by omega) (by omega)
  have hw3 : IntKind.i64.wrap (c * (((j % 7 : Nat) : Int) + 1)) = c * (((j % 7 : Nat) : Int) + 1) := wrap64 (by omega) (by omega)
  have hw4 : IntKind.i64.wrap (bs[j] * 3 + c * (((j % 7 : Nat) : Int) + 1)) = bs[j] * 3 + c * (((j % 7 : Nat) : Int) + 1) := wrap64 (by omega) (by omega)
  refine G.rg tab_ok (kof_nil _) (hk := ?_)
  apply G.blk
  refine G.rg tab_ok (kof_nil _) (hk := ?_)
  refine G.nm [0, 1, 5, 6] (h := ?_)
  exact G.upto (hJ (j + 1) (by omega) (by omega)) (by simp only [freshL, hbe]; simp [bv])
 ·try simp only [zqz] at h1
  refine G.exit rfl ?_
  apply G.seq
  refine G.rg tab_ok (kof_nil _) (hk := ?_)
  refine G.fin tab_ok (hr := ?_)
  obtain rfl : j = min bs.length 600 := by omega
  rfl
def r_lawFresh (xs0 : List A) (rr : A) : Prop := ∃ (bs : List Int) (c : Int), (BW bs) ∧ (bs.length < 1099511627776) ∧ (0 ≤ c) ∧ (c ≤ 1000000) ∧ xs0 = [.row false 1 (bs.map bv), .int .i64 c] ∧ rr = .row true 1 ((mkFresh bs c).map bv)
noncomputable def q_lawFresh : List A → Option A := kgr r_lawFresh
theorem k_lawFresh : KOk Try.prog (23, q_lawFresh) := kgr_ok (enters_of Try.func23 rfl rfl) (by rintro xs0 rr ⟨bs, c, hc1, hc2, hc3, hc4, rfl, rfl⟩; exact lawFresh_ac bs c hc1 hc2 hc3 hc4)
theorem e_lawFresh : ∀ (bs : List Int) (c : Int), (BW bs) → (bs.length < 1099511627776) → (0 ≤ c) → (c ≤ 1000000) → q_lawFresh [.row false 1 (bs.map bv), .int .i64 c] = some (.row true 1 ((mkFresh bs c).map bv)) := by
 intro bs c hc1 hc2 hc3 hc4
 refine kgr_eq (fun xs0 rr r2 h h2 => ?_) ⟨bs, c, hc1, hc2, hc3, hc4, rfl, rfl⟩
 obtain ⟨bs1, c1, _, _, _, _, e1, rfl⟩ := h; obtain ⟨bs2, c2, _, _, _, _, e2, rfl⟩ := h2
 rw [e1] at e2
 simp only [List.cons.injEq, A.int.injEq, A.row.injEq, bv_inj, true_and, and_true] at e2
 simp [e2]
end Go.Proofs.Ytimgfinlbhodhaa.Ab
