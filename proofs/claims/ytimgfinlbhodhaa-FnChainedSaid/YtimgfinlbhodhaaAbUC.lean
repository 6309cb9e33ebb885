/- Walks of functions of the program: what each answers, for all arguments that meet its conditions. -/
import Derived.Test.YtimgfinlbhodhaaAbChain
import Derived.Test.YtimgfinlbhodhaaAbC4
import Derived.Test.YtimgfinlbhodhaaAbT1
import Derived.Test.YtimgfinlbhodhaaFwGc
import Derived.Test.YtimgfinlbhodhaaAbZS
import Derived.Test.YtimgfinlbhodhaaAbP15
import Derived.Test.YtimgfinlbhodhaaAbB3
import Derived.Test.YtimgfinlbhodhaaAbO1
import Derived.Test.YtimgfinlbhodhaaAbO2
import Derived.Test.YtimgfinlbhodhaaAbIT
import Derived.Test.YtimgfinlbhodhaaAbAutoI
namespace Go.Proofs.Ytimgfinlbhodhaa.Ab
open Go
set_option linter.unusedVariables false
set_option linter.unusedSimpArgs false
set_option maxHeartbeats 4000000
theorem ok_lawChained : Kn.ok Try.prog (kof [(30, q_makeStream), (15, q_lawAt), (53, q_implSample), (54, q_sumsOf), (55, q_stepsOf), (56, q_implHold), (57, q_implChainNetwork), (51, q_implObserveNetwork), (58, q_specObserveNetwork), (35, q_ints)]) := kof_cons k_makeStream (kof_cons k_lawAt (kof_cons k_implSample (kof_cons k_sumsOf (kof_cons k_stepsOf (kof_cons k_implHold (kof_cons k_implChainNetwork (kof_cons k_implObserveNetwork (kof_cons k_specObserveNetwork (kof_cons k_ints ((kof_nil _)))))))))))
theorem mkStream_len4 (bs : List Int) {n : Int} (h0 : 0 ≤ n) : ((mkStream bs n).length : Int) ≤ n := by
  unfold mkStream tokS
  rw [toksN_len]
  have := bel_ok bs 0 (newH bs (min bs.length 4000)) (n := max 0 (min n 100) + 1) (by omega)
  omega
theorem hold_two {x : List Int} (hs : strOk x = true) (hl : x.length ≤ 199) : holdOut x 2 = (holdL 2 x, true) := by
  have hb : holdBad x 2 = false := by
    unfold holdBad
    rw [hs]
    simp
  have hk : strOk (holdL (Int.toNat 2) x) = true := strOk_hold hs (by show x.length * 2 ≤ 400; omega)
  unfold holdOut
  rw [if_neg (by rw [hb]; simp), if_pos hk]
  rfl
theorem lawChained_ac (bs : List Int) (hc1 : bs.length < 140737488355328) (hc2 : ∀ x ∈ bs, 0 ≤ x ∧ x ≤ 255) : AC Try.prog 10 [.row false 1 (bs.map bv)] (.bool true) := by
  have e_makeStream := e_makeStream
  have e_lawAt := e_lawAt
  have e_implSample := e_implSample
  have e_sumsOf := e_sumsOf
  have e_stepsOf := e_stepsOf
  have e_implHold := e_implHold
  have e_implChainNetwork := e_implChainNetwork
  have e_implObserveNetwork := e_implObserveNetwork
  have e_specObserveNetwork := e_specObserveNetwork
  have e_ints := e_ints
  have hivl := ivL_eq
  have hro := roLL_ovL
  have hpov := pureLL_ovL
  have hnov := noLoanLL_ovL
  have hrov := roLL_ovL
  have hriv := roLL_ivL
  have hpiv := pureLL_ivL
  have hri := roLL_iv
  have hrp := roLL_pv
  have hivl := ivL_eq
  refine AC.of tab_ok Try.func10 rfl (Nat.le_of_ble_eq_true rfl) fun w0 S0 => ?_
  change G _ _ ⟨[(0, .row false 1 (bs.map bv))], [], 100⟩
  apply G.seq
  refine G.rg tab_ok ok_lawChained (hk := ?_)
  apply G.seq
  apply G.seq
  refine G.rg tab_ok ok_lawChained (hk := ?_)
  refine G.iff (h1 := fun h1 => ?_) (h2 := fun h1 => ?_)
  · try simp only [zz, bne_iff_ne, beq_iff_eq, bne_eq_false_iff_eq, beq_eq_false_iff_ne, ne_eq, gt_iff_lt, ge_iff_le] at h1
    apply G.seq
    refine G.rg tab_ok ok_lawChained (hk := ?_)
    refine G.fin tab_ok (hr := ?_)
    rfl
  · try simp only [zz, bne_iff_ne, beq_iff_eq, bne_eq_false_iff_eq, beq_eq_false_iff_ne, ne_eq, gt_iff_lt, ge_iff_le] at h1
    apply G.skip
    apply G.seq
    have hB : BW bs := ⟨hc2⟩
    have hl0 : bs.length < 1099511627776 := by omega
    have hlb : bs.length ≤ 1099511627776 := by omega
    have hS := mkStream_ok bs 12
    have hSl : (mkStream bs 12).length ≤ 12 := by have := mkStream_len4 bs (n := 12) (by omega); omega
    obtain ⟨S, hSe⟩ : ∃ x, mkStream bs 12 = x := ⟨_, rfl⟩
    rw [hSe] at hS hSl
    have ha1 := e_lawAt bs 1 hB hlb (by omega) (by omega)
    have hat1 := atO_ok hB (k := 1) (by omega)
    have ht1 := Int.tmod_nonneg 5 hat1.1
    have ht2 := Int.tmod_lt_of_pos (atO bs 1) (b := 5) (by decide)
    have hw1 : IntKind.i64.wrap ((atO bs 1).tmod 5) = (atO bs 1).tmod 5 := wrap64 (by omega) (by omega)
    obtain ⟨m, hm⟩ : ∃ m : Nat, 1 + (atO bs 1).tmod 5 = (m : Int) := ⟨(1 + (atO bs 1).tmod 5).toNat, by omega⟩
    have hm1 : 0 < m := by omega
    have hm6 : m < 6 := by omega
    have hwm : IntKind.i64.wrap (m : Int) = (m : Int) := wrap64 (by omega) (by omega)
    clear ht1 ht2 hat1
    refine G.rg tab_ok ok_lawChained (hk := ?_)
    refine G.freeze 3 0 rfl (by simp [look]) ?_
    simp only [List.set_cons_succ, List.set_cons_zero, hri]
    apply G.seq
    refine G.rg tab_ok ok_lawChained (hk := ?_)
    apply G.seq
    refine G.rg tab_ok ok_lawChained (hk := ?_)
    apply G.seq
    apply G.seq
    refine G.rg tab_ok ok_lawChained (hk := ?_)
    apply G.block
    refine G.nm [0, 3, 4, 5, 6] (h := ?_)
    refine G.loopX (fun j : Nat => ⟨[(0, .row false 1 (bs.map bv)), (3, .row false 1 (S.map iv)), (4, .sl 0 0 j), (5, .row false 1 ((wantL bs S j).map iv)), (6, .int .i64 j)], [some (3, (chP bs j).map pv)], 100⟩) (fun j => j ≤ m) (fun j => m - j) (0) (Nat.zero_le _) (by simp [chP, wantL]) ?_
    intro j hj J hJ
    have hwj1 : IntKind.i64.wrap ((j : Int) + 1) = ((j + 1 : Nat) : Int) := by rw [wrap64 (by omega) (by omega)]; omega
    have hcl := chP_len bs j
    have hct : List.take j ((chP bs j).map pv) = (chP bs j).map pv := List.take_of_length_le (by simp [chP_len])
    have hq1 : ((j + 1 : Nat) : Int) ≤ 4611686018427387904 := by omega
    have hq2 : (j + 1) * 40 ≤ 70368744177664 := by omega
    apply G.seq
    apply G.seq
    refine G.rg tab_ok ok_lawChained (hk := ?_)
    refine G.iff (h1 := fun h2 => ?_) (h2 := fun h2 => ?_)
    · try simp only [zz, bne_iff_ne, beq_iff_eq, bne_eq_false_iff_eq, beq_eq_false_iff_ne, ne_eq, gt_iff_lt, ge_iff_le] at h2
      apply G.skip
      apply G.seq
      apply G.block
      apply G.seq
      have hjm : j < m := by omega
      have hwj2 : IntKind.i64.wrap ((j : Int) + 2) = (j : Int) + 2 := wrap64 (by omega) (by omega)
      have ha2 := e_lawAt bs ((j : Int) + 2) hB hlb (by omega) (by omega)
      have hat2 := atO_ok hB (k := (j : Int) + 2) (by omega)
      have hq4 : qAt bs j < 4 := Nat.mod_lt _ (by omega)
      have hqe : (atO bs ((j : Int) + 2)).tmod 4 = (qAt bs j : Int) := by
        obtain ⟨a, ha⟩ : ∃ a : Nat, atO bs ((j : Int) + 2) = (a : Int) := ⟨(atO bs ((j : Int) + 2)).toNat, by omega⟩
        unfold qAt
        rw [ha, Int.toNat_natCast]
        rfl
      have hXo := wantL_ok bs hS hSl j (by omega)
      have hXl := wantL_199 bs hS hSl (j := j) (by omega)
      have hwn0 : wantL bs S (j + 1) = appF (qAt bs j) (wantL bs S j) := rfl
      have hap0 := chP_snoc bs j
      obtain ⟨X, hX⟩ : ∃ x, wantL bs S j = x := ⟨_, rfl⟩
      rw [hX] at hXo hXl hwn0 ⊢
      obtain ⟨hXs, _⟩ := hXo
      have hXw : X.length < 17592186044416 := by omega
      clear hX hat2
      rcases (show qAt bs j = 0 ∨ qAt bs j = 1 ∨ qAt bs j = 2 ∨ qAt bs j = 3 by omega) with c0 | c0 | c0 | c0
      · skip
        have hsp : sampleP { data := #[116, 104, 114, 111, 117, 103, 104] } = (1, 1, prgL 0) := by decide +kernel
        rw [c0] at hqe hwn0 hap0
        have hqe2 : (atO bs ((j : Int) + 2)).tmod 4 = 0 := hqe
        have hwn : wantL bs S (j + 1) = appF 0 X := hwn0
        clear hqe hwn0
        have hwq : IntKind.i64.wrap (0 : Int) = 0 := by decide
        have hap : (chP bs j).map pv ++ [[.int .i64 1, .int .i64 1, .row false 4 ((prgL 0).map insv)]] = (chP bs (j + 1)).map pv := by rw [← hap0, List.map_append]; rfl
        obtain ⟨PL, hPL⟩ : ∃ x, prgL 0 = x := ⟨_, rfl⟩
        rw [hPL] at hsp hap
        clear hPL
        refine G.rg tab_ok ok_lawChained (hk := ?_)
        apply G.seq
        refine G.rgN 4 tab_ok ok_lawChained (hk := ?_)
        refine G.cellRo 3 0 2 2 rfl rfl rfl rfl (by simp) (by decide) (pureLL_insv _) (roLL_insv _) ?_
        simp only [withH, List.set_cons_succ, List.set_cons_zero]
        refine G.rgC tab_ok ok_lawChained (hk := ?_)
        apply G.seq
        refine G.rg tab_ok ok_lawChained (hk := ?_)
        apply G.block
        apply G.seq
        refine G.rg tab_ok ok_lawChained (hk := ?_)
        refine G.iffF (h2 := ?_)
        apply G.seq
        refine G.rg tab_ok ok_lawChained (hk := ?_)
        refine G.iffF (h2 := ?_)
        apply G.seq
        refine G.rg tab_ok ok_lawChained (hk := ?_)
        refine G.iffF (h2 := ?_)
        apply G.skip
        apply G.blk
        apply G.blk
        refine G.rg tab_ok ok_lawChained (hk := ?_)
        refine G.nm [0, 3, 4, 5, 6] (h := ?_)
        exact G.upto (hJ (j + 1) (by omega) (by omega)) (by rw [hwn]; simp [appF, chP_len])
      · skip
        have hsp : sampleP { data := #[115, 117, 109, 115] } = (1, 1, prgL 1) := by decide +kernel
        rw [c0] at hqe hwn0 hap0
        have hqe2 : (atO bs ((j : Int) + 2)).tmod 4 = 1 := hqe
        have hwn : wantL bs S (j + 1) = appF 1 X := hwn0
        clear hqe hwn0
        have hwq : IntKind.i64.wrap (1 : Int) = 1 := by decide
        have hap : (chP bs j).map pv ++ [[.int .i64 1, .int .i64 1, .row false 4 ((prgL 1).map insv)]] = (chP bs (j + 1)).map pv := by rw [← hap0, List.map_append]; rfl
        obtain ⟨PL, hPL⟩ : ∃ x, prgL 1 = x := ⟨_, rfl⟩
        rw [hPL] at hsp hap
        clear hPL
        refine G.rg tab_ok ok_lawChained (hk := ?_)
        apply G.seq
        refine G.rgN 4 tab_ok ok_lawChained (hk := ?_)
        refine G.cellRo 3 0 2 2 rfl rfl rfl rfl (by simp) (by decide) (pureLL_insv _) (roLL_insv _) ?_
        simp only [withH, List.set_cons_succ, List.set_cons_zero]
        refine G.rgC tab_ok ok_lawChained (hk := ?_)
        apply G.seq
        refine G.rg tab_ok ok_lawChained (hk := ?_)
        apply G.block
        apply G.seq
        refine G.rg tab_ok ok_lawChained (hk := ?_)
        refine G.iffT (h1 := ?_)
        refine G.rg tab_ok ok_lawChained (hk := ?_)
        refine G.freeze 5 5 rfl (by simp [look]) ?_
        simp only [List.set_cons_succ, List.set_cons_zero, hri]
        apply G.blk
        apply G.blk
        refine G.rg tab_ok ok_lawChained (hk := ?_)
        refine G.nm [0, 3, 4, 5, 6] (h := ?_)
        exact G.upto (hJ (j + 1) (by omega) (by omega)) (by rw [hwn]; simp [appF, chP_len])
      · skip
        have hsp : sampleP { data := #[115, 116, 101, 112, 115] } = (1, 1, prgL 2) := by decide +kernel
        rw [c0] at hqe hwn0 hap0
        have hqe2 : (atO bs ((j : Int) + 2)).tmod 4 = 2 := hqe
        have hwn : wantL bs S (j + 1) = appF 2 X := hwn0
        clear hqe hwn0
        have hwq : IntKind.i64.wrap (2 : Int) = 2 := by decide
        have hap : (chP bs j).map pv ++ [[.int .i64 1, .int .i64 1, .row false 4 ((prgL 2).map insv)]] = (chP bs (j + 1)).map pv := by rw [← hap0, List.map_append]; rfl
        obtain ⟨PL, hPL⟩ : ∃ x, prgL 2 = x := ⟨_, rfl⟩
        rw [hPL] at hsp hap
        clear hPL
        refine G.rg tab_ok ok_lawChained (hk := ?_)
        apply G.seq
        refine G.rgN 4 tab_ok ok_lawChained (hk := ?_)
        refine G.cellRo 3 0 2 2 rfl rfl rfl rfl (by simp) (by decide) (pureLL_insv _) (roLL_insv _) ?_
        simp only [withH, List.set_cons_succ, List.set_cons_zero]
        refine G.rgC tab_ok ok_lawChained (hk := ?_)
        apply G.seq
        refine G.rg tab_ok ok_lawChained (hk := ?_)
        apply G.block
        apply G.seq
        refine G.rg tab_ok ok_lawChained (hk := ?_)
        refine G.iffF (h2 := ?_)
        apply G.seq
        refine G.rg tab_ok ok_lawChained (hk := ?_)
        refine G.iffT (h1 := ?_)
        refine G.rg tab_ok ok_lawChained (hk := ?_)
        refine G.freeze 5 5 rfl (by simp [look]) ?_
        simp only [List.set_cons_succ, List.set_cons_zero, hri]
        apply G.blk
        apply G.blk
        refine G.rg tab_ok ok_lawChained (hk := ?_)
        refine G.nm [0, 3, 4, 5, 6] (h := ?_)
        exact G.upto (hJ (j + 1) (by omega) (by omega)) (by rw [hwn]; simp [appF, chP_len])
      · skip
        have hsp : sampleP { data := #[116, 119, 105, 99, 101] } = (1, 1, prgL 3) := by decide +kernel
        rw [c0] at hqe hwn0 hap0
        have hqe2 : (atO bs ((j : Int) + 2)).tmod 4 = 3 := hqe
        have hwn : wantL bs S (j + 1) = appF 3 X := hwn0
        clear hqe hwn0
        have hwq : IntKind.i64.wrap (3 : Int) = 3 := by decide
        have hap : (chP bs j).map pv ++ [[.int .i64 1, .int .i64 1, .row false 4 ((prgL 3).map insv)]] = (chP bs (j + 1)).map pv := by rw [← hap0, List.map_append]; rfl
        obtain ⟨PL, hPL⟩ : ∃ x, prgL 3 = x := ⟨_, rfl⟩
        rw [hPL] at hsp hap
        clear hPL
        have hho := hold_two hXs hXl
        refine G.rg tab_ok ok_lawChained (hk := ?_)
        apply G.seq
        refine G.rgN 4 tab_ok ok_lawChained (hk := ?_)
        refine G.cellRo 3 0 2 2 rfl rfl rfl rfl (by simp) (by decide) (pureLL_insv _) (roLL_insv _) ?_
        simp only [withH, List.set_cons_succ, List.set_cons_zero]
        refine G.rgC tab_ok ok_lawChained (hk := ?_)
        apply G.seq
        refine G.rg tab_ok ok_lawChained (hk := ?_)
        apply G.block
        apply G.seq
        refine G.rg tab_ok ok_lawChained (hk := ?_)
        refine G.iffF (h2 := ?_)
        apply G.seq
        refine G.rg tab_ok ok_lawChained (hk := ?_)
        refine G.iffF (h2 := ?_)
        apply G.seq
        refine G.rg tab_ok ok_lawChained (hk := ?_)
        refine G.iffT (h1 := ?_)
        apply G.seq
        refine G.rg tab_ok ok_lawChained (hk := ?_)
        refine G.freeze 8 5 rfl (by simp [look]) ?_
        simp only [List.set_cons_succ, List.set_cons_zero, hri]
        apply G.seq
        apply G.seq
        refine G.fg [0, 3, 4, 6, 8, 9] (hk := ?_)
        refine G.rg tab_ok ok_lawChained (hk := ?_)
        refine G.iffF (h2 := ?_)
        apply G.skip
        refine G.rg tab_ok ok_lawChained (hk := ?_)
        apply G.blk
        apply G.blk
        refine G.rg tab_ok ok_lawChained (hk := ?_)
        refine G.nm [0, 3, 4, 5, 6] (h := ?_)
        exact G.upto (hJ (j + 1) (by omega) (by omega)) (by rw [hwn]; simp [appF, chP_len])
    · try simp only [zz, bne_iff_ne, beq_iff_eq, bne_eq_false_iff_eq, beq_eq_false_iff_ne, ne_eq, gt_iff_lt, ge_iff_le] at h2
      refine G.exit rfl ?_
      apply G.seq
      obtain rfl : j = m := by omega
      have hch := ch_chain (bs := bs) hm1 hm6 hS
      have hnk := ch_net (bs := bs) hm1 hm6 hS
      have hob := ch_obs (bs := bs) hm1 hm6 hS hSl
      have hWo := wantL_ok bs hS hSl j (by omega)
      obtain ⟨W, hW⟩ : ∃ x, wantL bs S j = x := ⟨_, rfl⟩
      rw [hW] at hob hWo ⊢
      have hWl := strLen hWo.1
      have hWw : W.length < 17592186044416 := by omega
      have hpl := chP_len bs j
      refine G.freeze 4 0 rfl (by simp [look, chP_len]) ?_
      simp only [List.set_cons_succ, List.set_cons_zero, hrp]
      obtain ⟨ps, hps⟩ : ∃ x, chP bs j = x := ⟨_, rfl⟩
      obtain ⟨ks, hks⟩ : ∃ x, chainK j S = x := ⟨_, rfl⟩
      rw [hps] at hch hnk hob hpl ⊢
      rw [hks] at hch hnk hob
      have hnw := net_NW hnk
      have hkw := net_KW hnk
      have hpq : ps.length < 3518437208781 := by omega
      have hkq : ks.length < 2513169434844 := by have := (netOk_w hnk).kl; omega
      have hSw : S.length ≤ 1048576 := by omega
      have hns : NS ps := fun p hp => by have := hnw p hp; have := progOk_len (List.all_eq_true.1 (netOk_w hnk).pg p hp); omega
      have hpm : ps.length ≤ 1048576 := by omega
      clear hps hks hpl hW
      refine G.rg tab_ok ok_lawChained (hk := ?_)
      refine G.cellRo2 3 0 0 1 rfl rfl rfl rfl (by simp) (by decide) (pureLL_opv _) (roLL_opv _) ?_
      simp only [withH, List.set_cons_succ, List.set_cons_zero]
      refine G.cellRo2 3 0 1 2 rfl rfl rfl rfl (by simp) (by decide) (pureLL_okv _) (roLL_okv _) ?_
      simp only [withH, List.set_cons_succ, List.set_cons_zero]
      apply G.seq
      rcases hob with hob | hob
      · skip
        refine G.rg tab_ok ok_lawChained (hk := ?_)
        refine G.freeze 12 4 rfl (by simp [look]) ?_
        simp only [List.set_cons_succ, List.set_cons_zero, hrov]
        apply G.seq
        refine G.rg tab_ok ok_lawChained (hk := ?_)
        apply G.seq
        apply G.seq
        refine G.rgN 3 tab_ok ok_lawChained (hk := ?_)
        refine G.rdN 2 tab_ok ok_lawChained (hk := ?_)
        refine G.rdC tab_ok ok_lawChained (hk := ?_)
        refine G.iffF (h2 := ?_)
        apply G.skip
        apply G.seq
        refine G.fg [5, 12, 13] (hk := ?_)
        refine G.rgN 3 tab_ok ok_lawChained (hk := ?_)
        refine G.rdN 2 tab_ok ok_lawChained (hk := ?_)
        refine G.rdN 2 tab_ok ok_lawChained (hk := ?_)
        refine G.rdN 2 tab_ok ok_lawChained (hk := ?_)
        refine G.rdN 2 tab_ok ok_lawChained (hk := ?_)
        refine G.rdN 2 tab_ok ok_lawChained (hk := ?_)
        refine G.rdC tab_ok ok_lawChained (hk := ?_)
        refine G.fin tab_ok (hr := ?_)
        rfl
      · skip
        refine G.rg tab_ok ok_lawChained (hk := ?_)
        refine G.freeze 12 4 rfl (by simp [look]) ?_
        simp only [List.set_cons_succ, List.set_cons_zero, hrov]
        apply G.seq
        refine G.rg tab_ok ok_lawChained (hk := ?_)
        apply G.seq
        apply G.seq
        refine G.rgN 3 tab_ok ok_lawChained (hk := ?_)
        refine G.rdN 2 tab_ok ok_lawChained (hk := ?_)
        refine G.rdC tab_ok ok_lawChained (hk := ?_)
        refine G.iffF (h2 := ?_)
        apply G.skip
        apply G.seq
        refine G.fg [5, 12, 13] (hk := ?_)
        refine G.rgN 3 tab_ok ok_lawChained (hk := ?_)
        refine G.rdN 2 tab_ok ok_lawChained (hk := ?_)
        refine G.rdN 2 tab_ok ok_lawChained (hk := ?_)
        refine G.rdN 2 tab_ok ok_lawChained (hk := ?_)
        refine G.rdN 2 tab_ok ok_lawChained (hk := ?_)
        refine G.rdN 2 tab_ok ok_lawChained (hk := ?_)
        refine G.rdC tab_ok ok_lawChained (hk := ?_)
        refine G.fin tab_ok (hr := ?_)
        rfl
end Go.Proofs.Ytimgfinlbhodhaa.Ab
