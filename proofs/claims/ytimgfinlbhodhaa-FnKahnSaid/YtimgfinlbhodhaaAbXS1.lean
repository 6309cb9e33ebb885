/- Walks of functions. -/
import Derived.Test.YtimgfinlbhodhaaAbSched
import Derived.Test.YtimgfinlbhodhaaFwGl
import Derived.Test.YtimgfinlbhodhaaAbWire
import Derived.Test.YtimgfinlbhodhaaAbAutoI
namespace Go.Proofs.Ytimgfinlbhodhaa.Ab
open Go
set_option linter.unusedVariables false
set_option linter.unusedSimpArgs false
set_option maxHeartbeats 4000000
theorem en_l01ByteX : Enters Try.prog 153 := enters_of Try.func153 rfl rfl
theorem l01BelowX_mc (h : Heap) (bs : List Int) (i : Int) (hh : Int) (n : Int) (hc1 : h = [some (3, [[.row false 1 (bs.map bv), .int .i64 (i), .int .i64 (hh)]])]) (hc2 : CuOk bs i) (hc3 : 256 < n) (hc4 : n ≤ 1000) : MC Try.prog 86 h [.ptr 0 0 0, .int .i64 n] (.int .i64 (belX bs i hh n).1) ([some (3, [[.row false 1 (bs.map bv), .int .i64 ((belX bs i hh n).2.1), .int .i64 ((belX bs i hh n).2.2)]])]) := by
 subst hc1
 have hn1 : ¬ n ≤ 0 := by omega
 have hn2 : ¬ n ≤ 256 := by omega
 have hn0 : ¬ n = 0 := by omega
 have ka := curB_ok bs i hh
 have hcua := curB_cu hc2 hh
 obtain ⟨⟨a, ca, ga⟩, hA⟩ : ∃ x, curB bs i hh = x := ⟨_, rfl⟩
 rw [hA] at ka hcua
 simp only at ka hcua
 have kb := curB_ok bs ca ga
 have hcub := curB_cu hcua ga
 obtain ⟨⟨b, cb, gb⟩, hB⟩ : ∃ x, curB bs ca ga = x := ⟨_, rfl⟩
 rw [hB] at kb hcub
 simp only at kb hcub
 have kc := curB_ok bs cb gb
 have hcuc := curB_cu hcub gb
 obtain ⟨⟨c, cc, gc⟩, hC⟩ : ∃ x, curB bs cb gb = x := ⟨_, rfl⟩
 rw [hC] at kc hcuc
 simp only at kc hcuc
 have kd := curB_ok bs cc gc
 obtain ⟨⟨d, cd, gd⟩, hD⟩ : ∃ x, curB bs cc gc = x := ⟨_, rfl⟩
 rw [hD] at kd
 simp only at kd
 have hX : belX bs i hh n = ((a * 16777216 + b * 65536 + c * 256 + d).tmod n, cd, gd) := by
  unfold belX quadX
  simp only [hA, hB, hC, hD]
 rw [hX]
 obtain ⟨ka0, ka1⟩ := ka
 obtain ⟨kb0, kb1⟩ := kb
 obtain ⟨kc0, kc1⟩ := kc
 obtain ⟨kd0, kd1⟩ := kd
 have w1 : IntKind.i64.wrap (a * 16777216) = a * 16777216 := wrap64 (by omega) (by omega)
 have w2 : IntKind.i64.wrap (b * 65536) = b * 65536 := wrap64 (by omega) (by omega)
 have w3 : IntKind.i64.wrap (a * 16777216 + b * 65536) = a * 16777216 + b * 65536 := wrap64 (by omega) (by omega)
 have w4 : IntKind.i64.wrap (c * 256) = c * 256 := wrap64 (by omega) (by omega)
 have w5 : IntKind.i64.wrap (a * 16777216 + b * 65536 + c * 256) = a * 16777216 + b * 65536 + c * 256 := wrap64 (by omega) (by omega)
 have w6 : IntKind.i64.wrap (a * 16777216 + b * 65536 + c * 256 + d) = a * 16777216 + b * 65536 + c * 256 + d := wrap64 (by omega) (by omega)
 have hz0 : 0 ≤ (a * 16777216 + b * 65536 + c * 256 + d).tmod n := Int.tmod_nonneg n (by omega)
 have hz1 : (a * 16777216 + b * 65536 + c * 256 + d).tmod n < n := Int.tmod_lt_of_pos _ (by omega)
 have w7 : IntKind.i64.wrap ((a * 16777216 + b * 65536 + c * 256 + d).tmod n) = (a * 16777216 + b * 65536 + c * 256 + d).tmod n := wrap64 (by omega) (by omega)
 clear hX
 refine MC.of tab_ok Try.func86 rfl (Nat.le_of_ble_eq_true rfl) fun w0 S0 fs0 φ0 hφ0 hq0 => ?_
 change G _ _ ⟨[(0, .ptr 0 0 0), (1, .int .i64 n)], _, 37⟩
 apply G.seq
 refine G.rg tab_ok (kof_nil _) (hk := ?_)
 apply G.seq
 apply G.seq
 refine G.rg tab_ok (kof_nil _) (hk := ?_)
 refine G.iffF (h2 := ?_)
 apply G.skip
 apply G.seq
 apply G.seq
 refine G.rg tab_ok (kof_nil _) (hk := ?_)
 refine G.iffF (h2 := ?_)
 apply G.skip
 apply G.seq
 refine G.rgN 1 tab_ok (kof_nil _) (hk := ?_)
 refine G.cf [0] en_l01ByteX (l01Byte_mc _ bs i hh rfl hc2) (h := ?_)
 refine G.rgC tab_ok (kof_nil _) (hk := ?_)
 apply G.seq
 refine G.rgN 1 tab_ok (kof_nil _) (hk := ?_)
 refine G.cf [0] en_l01ByteX (l01Byte_mc _ bs ca ga rfl hcua) (h := ?_)
 refine G.rgC tab_ok (kof_nil _) (hk := ?_)
 apply G.seq
 refine G.rgN 1 tab_ok (kof_nil _) (hk := ?_)
 refine G.cf [0] en_l01ByteX (l01Byte_mc _ bs cb gb rfl hcub) (h := ?_)
 refine G.rgC tab_ok (kof_nil _) (hk := ?_)
 apply G.seq
 refine G.rgN 1 tab_ok (kof_nil _) (hk := ?_)
 refine G.cf [0] en_l01ByteX (l01Byte_mc _ bs cc gc rfl hcuc) (h := ?_)
 refine G.rgC tab_ok (kof_nil _) (hk := ?_)
 apply G.seq
 refine G.rg tab_ok (kof_nil _) (hk := ?_)
 refine G.finM (junk := []) tab_ok (hr := ?_) (hh := ?_) (hq := ?_) (hl := ?_)
 ·rfl
 ·rfl
 ·rfl
 ·rw [hφ0]; exact Nat.le_refl _
theorem ok_makeSchedule : Kn.ok Try.prog (kof [(62, q_l01New)]) := kof_cons k_l01New ((kof_nil _))
theorem en_l01BelowX : Enters Try.prog 86 := enters_of Try.func86 rfl rfl
theorem makeSchedule_ac (bs : List Int) (ps : List PG) (ks : List LK) (hc1 : BW bs) (hc2 : bs.length < 1099511627776) (hc3 : ps.length ≤ 200) : AC Try.prog 22 [.row false 1 (bs.map bv), .agg [.row false 3 (ps.map pv), .row false 5 (ks.map kv)], .int .i64 500] (.row true 1 ((mkSched bs ((ps.length : Int) + 1)).map iv)) := by
 have e_l01New := e_l01New
 have hcu : CuOk bs 0 := ⟨hc1, hc2, by omega, by omega⟩
 have hk := belX_ok bs 0 (newH bs (min bs.length 4000)) (n := 500) (by omega)
 have hcuk := belX_cu hcu (newH bs (min bs.length 4000)) 500
 obtain ⟨⟨K, ci, ch⟩, hKB⟩ : ∃ x, belX bs 0 (newH bs (min bs.length 4000)) 500 = x := ⟨_, rfl⟩
 have hMS : mkSched bs ((ps.length : Int) + 1) = (schN bs ci ch ((ps.length : Int) + 1) K.toNat).1 := by unfold mkSched; rw [hKB]
 rw [hMS]
 rw [hKB] at hk hcuk
 simp only at hk hcuk
 obtain ⟨hk0, hk1⟩ := hk
 have hmx5 : (if (500 : Int) > 1 then (500 : Int) else 1) = 500 := if_pos (by decide)
 clear hMS
 refine AC.of tab_ok Try.func22 rfl (Nat.le_of_ble_eq_true rfl) fun w0 S0 => ?_
 change G _ _ ⟨[(0, .row false 1 (bs.map bv)), (1, .agg [.row false 3 (ps.map pv), .row false 5 (ks.map kv)]), (2, .int .i64 500)], [], 32⟩
 apply G.seq
 refine G.rg tab_ok ok_makeSchedule (hk := ?_)
 apply G.seq
 refine G.rg tab_ok ok_makeSchedule (hk := ?_)
 apply G.seq
 refine G.rg tab_ok ok_makeSchedule (hk := ?_)
 apply G.seq
 apply G.seq
 refine G.rgN 4 tab_ok ok_makeSchedule (hk := ?_)
 refine G.cf [1] en_l01BelowX (l01BelowX_mc _ bs 0 (newH bs (min bs.length 4000)) 500 rfl hcu (by omega) (by omega)) (h := ?_)
 refine G.rgC tab_ok ok_makeSchedule (hk := ?_)
 apply G.block
 refine G.nm [4, 7, 8, 9] (h := ?_)
 refine G.loopX (fun j : Nat => ⟨[(4, .ptr 0 0 0), (7, .ptr 1 0 0), (8, .sl 2 0 j), (9, .int .i64 (K - (j : Nat)))], [some (2, [[.row false 3 (ps.map pv), .row false 5 (ks.map kv)]]), some (3, [[.row false 1 (bs.map bv), .int .i64 ((schN bs ci ch ((ps.length : Int) + 1) j).2.1), .int .i64 ((schN bs ci ch ((ps.length : Int) + 1) j).2.2)]]), some (1, (schN bs ci ch ((ps.length : Int) + 1) j).1.map iv)], 32⟩) (fun j => (j : Int) ≤ K) (fun j => K.toNat - j) (0) (by omega) (by simp [schN]) ?_
 intro j hj J hJ
 have hwK : IntKind.i64.wrap (K - (j : Int) - 1) = K - ((j + 1 : Nat) : Int) := by rw [wrap64 (by omega) (by omega)]; omega
 have hwp : IntKind.i64.wrap ((ps.length : Int) + 1) = (ps.length : Int) + 1 := wrap64 (by omega) (by omega)
 have hsl := schN_len bs ci ch ((ps.length : Int) + 1) j
 have hst : List.take j ((schN bs ci ch ((ps.length : Int) + 1) j).1.map iv) = (schN bs ci ch ((ps.length : Int) + 1) j).1.map iv := List.take_of_length_le (by simp [schN_len])
 have hq1 : ((j + 1 : Nat) : Int) ≤ 4611686018427387904 := by omega
 have hq2 : (j + 1) * 8 ≤ 70368744177664 := by omega
 apply G.seq
 apply G.seq
 refine G.rg tab_ok ok_makeSchedule (hk := ?_)
 refine G.iff (h1 := fun h1 => ?_) (h2 := fun h1 => ?_)
 ·try simp only [zqz] at h1
  apply G.skip
  apply G.seq
  apply G.block
  refine G.rgN 6 tab_ok ok_makeSchedule (hk := ?_)
  refine G.cf [1] en_l01BelowX (l01Below_mc _ bs (schN bs ci ch ((ps.length : Int) + 1) j).2.1 (schN bs ci ch ((ps.length : Int) + 1) j).2.2 ((ps.length : Int) + 1) rfl (schN_cu hcuk _ _ _) (by omega)) (h := ?_)
  refine G.rgC tab_ok ok_makeSchedule (hk := ?_)
  apply G.blk
  refine G.rg tab_ok ok_makeSchedule (hk := ?_)
  refine G.nm [4, 7, 8, 9] (h := ?_)
  exact G.upto (hJ (j + 1) (by omega) (by omega)) (by simp [schN, iv])
 ·try simp only [zqz] at h1
  refine G.exit rfl ?_
  apply G.seq
  refine G.rg tab_ok ok_makeSchedule (hk := ?_)
  obtain rfl : j = K.toNat := by omega
  have hl1 : K.toNat ≤ (schN bs ci ch ((ps.length : Int) + 1) K.toNat).1.length := by rw [schN_len]; exact Nat.le_refl _
  refine G.fin tab_ok (hr := ?_)
  rfl
def r_makeSchedule (xs0 : List A) (rr : A) : Prop := ∃ (bs : List Int) (ps : List PG) (ks : List LK), (BW bs) ∧ (bs.length < 1099511627776) ∧ (ps.length ≤ 200) ∧ xs0 = [.row false 1 (bs.map bv), .agg [.row false 3 (ps.map pv), .row false 5 (ks.map kv)], .int .i64 500] ∧ rr = .row true 1 ((mkSched bs ((ps.length : Int) + 1)).map iv)
noncomputable def q_makeSchedule : List A → Option A := kgr r_makeSchedule
theorem k_makeSchedule : KOk Try.prog (22, q_makeSchedule) := kgr_ok (enters_of Try.func22 rfl rfl) (by rintro xs0 rr ⟨bs, ps, ks, hc1, hc2, hc3, rfl, rfl⟩; exact makeSchedule_ac bs ps ks hc1 hc2 hc3)
theorem e_makeSchedule : ∀ (bs : List Int) (ps : List PG) (ks : List LK), (BW bs) → (bs.length < 1099511627776) → (ps.length ≤ 200) → q_makeSchedule [.row false 1 (bs.map bv), .agg [.row false 3 (ps.map pv), .row false 5 (ks.map kv)], .int .i64 500] = some (.row true 1 ((mkSched bs ((ps.length : Int) + 1)).map iv)) := by
 intro bs ps ks hc1 hc2 hc3
 refine kgr_eq (fun xs0 rr r2 h h2 => ?_) ⟨bs, ps, ks, hc1, hc2, hc3, rfl, rfl⟩
 obtain ⟨bs1, ps1, ks1, _, _, _, e1, rfl⟩ := h; obtain ⟨bs2, ps2, ks2, _, _, _, e2, rfl⟩ := h2
 rw [e1] at e2
 simp only [List.cons.injEq, A.int.injEq, A.agg.injEq, A.row.injEq, bv_inj, pv_inj, kv_inj, true_and, and_true] at e2
 obtain ⟨e3, e4, e5⟩ := e2
 subst e3 e4 e5
 rfl
end Go.Proofs.Ytimgfinlbhodhaa.Ab
