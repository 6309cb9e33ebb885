/- Walks of functions of the program: what each answers, for all arguments that meet its conditions. -/
import Derived.Test.YtimgfinlbhodhaaAbG5
import Derived.Test.YtimgfinlbhodhaaAbY7
import Derived.Test.YtimgfinlbhodhaaAbH4
import Derived.Test.YtimgfinlbhodhaaAbReach4
import Derived.Test.YtimgfinlbhodhaaAbAutoI
namespace Go.Proofs.Ytimgfinlbhodhaa.Ab
open Go
set_option linter.unusedVariables false
set_option linter.unusedSimpArgs false
set_option maxHeartbeats 4000000
theorem ok_lawReached : Kn.ok Try.prog (kof [(43, q_implReachedFrom), (44, q_implHasCycle), (45, q_implInputsOf), (46, q_implOutputsOf)]) := kof_cons k_implReachedFrom (kof_cons k_implHasCycle (kof_cons k_implInputsOf (kof_cons k_implOutputsOf ((kof_nil _)))))
theorem en_MakeNetwork : Enters Try.prog 12 := enters_of Try.func12 rfl rfl
theorem lawReached_ac (bs : List Int) (hc1 : bs.length < 140737488355328) (hc2 : ∀ x ∈ bs, 0 ≤ x ∧ x ≤ 255) : AC Try.prog 7 [.row false 1 (bs.map bv)] (.bool true) := by
  have e_implReachedFrom := e_implReachedFrom
  have e_implHasCycle := e_implHasCycle
  have e_implInputsOf := e_implInputsOf
  have e_implOutputsOf := e_implOutputsOf
  refine AC.of tab_ok Try.func7 rfl (Nat.le_of_ble_eq_true rfl) fun w0 S0 => ?_
  change G _ _ ⟨[(0, .row false 1 (bs.map bv))], [], 120⟩
  apply G.seq
  refine G.rg tab_ok ok_lawReached (hk := ?_)
  apply G.seq
  apply G.seq
  refine G.rg tab_ok ok_lawReached (hk := ?_)
  refine G.iff (h1 := fun h1 => ?_) (h2 := fun h1 => ?_)
  · try simp only [decide_eq_true_eq, decide_eq_false_iff_not, Bool.and_eq_true, Bool.and_eq_false_imp, Bool.or_eq_true, Bool.or_eq_false_iff, Bool.not_eq_true', Bool.not_eq_false', bne_iff_ne, beq_iff_eq, bne_eq_false_iff_eq, beq_eq_false_iff_ne, ne_eq, Int.ofNat_lt, Int.not_lt, Int.not_le, Int.ofNat_le, Nat.not_lt, Nat.not_le, gt_iff_lt, ge_iff_le] at h1
    apply G.seq
    refine G.rg tab_ok ok_lawReached (hk := ?_)
    refine G.fin tab_ok (hr := ?_)
    rfl
  · try simp only [decide_eq_true_eq, decide_eq_false_iff_not, Bool.and_eq_true, Bool.and_eq_false_imp, Bool.or_eq_true, Bool.or_eq_false_iff, Bool.not_eq_true', Bool.not_eq_false', bne_iff_ne, beq_iff_eq, bne_eq_false_iff_eq, beq_eq_false_iff_ne, ne_eq, Int.ofNat_lt, Int.not_lt, Int.not_le, Int.ofNat_le, Nat.not_lt, Nat.not_le, gt_iff_lt, ge_iff_le] at h1
    apply G.skip
    apply G.seq
    have hB : BW bs := ⟨hc2⟩
    have hl0 : bs.length < 1099511627776 := by omega
    refine G.rgN 1 tab_ok ok_lawReached (hk := ?_)
    refine G.cpX en_MakeNetwork (MakeNetwork_ax bs 8 hB hl0 (by omega) (by omega)) (h := fun y hy => ?_)
    obtain ⟨ps, ks⟩ := y
    simp only at hy
    obtain ⟨hnk, hpo, hks, hpl8⟩ := hy
    refine G.putX (h := ?_)
    refine G.rgC tab_ok ok_lawReached (hk := ?_)
    refine G.cellRo 1 0 1 0 rfl rfl rfl rfl (by simp) (by decide) (pureLL_kv _) (roLL_kv _) ?_
    simp only [withH, List.set_cons_succ, List.set_cons_zero]
    have hnw := po_nw hpo
    have hkw := ks_kw hks
    have hW := netOk_w hnk
    have hp12 := hW.pl
    have hk30 := hW.kl
    have hpq : ps.length < 3518437208781 := by omega
    have hkq : ks.length < 2513169434844 := by omega
    apply G.seq
    refine G.rg tab_ok ok_lawReached (hk := ?_)
    apply G.seq
    apply G.seq
    refine G.rg tab_ok ok_lawReached (hk := ?_)
    apply G.block
    refine G.nm [3, 4, 28, 29] (h := ?_)
    refine G.loopX (fun j : Nat => ⟨[(3, .ptr 0 0 0), (4, .bool (cycU ps ks j)), (28, .int .i64 ps.length), (29, .int .i64 (j : Nat))], [some (2, [[.row false 3 (ps.map pv), .row false 5 (ks.map kv)]])], 120⟩) (fun j => j ≤ ps.length) (fun j => ps.length - j) (0) (Nat.zero_le _) (by simp [cycU]) ?_
    intro j hj J2 hJ2
    have hw : IntKind.i64.wrap ((j : Int) + 1) = ((j + 1 : Nat) : Int) := by rw [wrap64 (by omega) (by omega)]; omega
    apply G.seq
    refine G.rg tab_ok ok_lawReached (hk := ?_)
    apply G.seq
    refine G.iff (h1 := fun h2 => ?_) (h2 := fun h2 => ?_)
    · try simp only [decide_eq_true_eq, decide_eq_false_iff_not, Bool.and_eq_true, Bool.and_eq_false_imp, Bool.or_eq_true, Bool.or_eq_false_iff, Bool.not_eq_true', Bool.not_eq_false', bne_iff_ne, beq_iff_eq, bne_eq_false_iff_eq, beq_eq_false_iff_ne, ne_eq, Int.ofNat_lt, Int.not_lt, Int.not_le, Int.ofNat_le, Nat.not_lt, Nat.not_le, gt_iff_lt, ge_iff_le] at h2
      apply G.skip
      apply G.seq
      apply G.block
      apply G.seq
      refine G.rg tab_ok ok_lawReached (hk := ?_)
      apply G.seq
      have hjp : j < ps.length := by omega
      have hj0 : 0 ≤ (j : Int) := by omega
      have hrj : reachO ps ks (j : Int) = (reachL ps ks (j : Int), true) := reachO_yes hnk (has_yes (by omega) (by omega))
      obtain ⟨a, ha⟩ : ∃ x, reachL ps ks (j : Int) = x := ⟨_, rfl⟩
      rw [ha] at hrj
      have hal := reachL_len ps ks (j : Int)
      rw [ha] at hal
      have hcy : hasI a (j : Int) = cycAt ps ks j := by rw [← ha]; exact reach_cyc hnk hjp
      refine G.rg tab_ok ok_lawReached (hk := ?_)
      apply G.seq
      apply G.seq
      refine G.rg tab_ok ok_lawReached (hk := ?_)
      refine G.iffF (h2 := ?_)
      apply G.skip
      apply G.seq
      have hta : List.take a.length (a.map iv) = a.map iv := List.take_of_length_le (by simp)
      refine G.rg tab_ok ok_lawReached (hk := ?_)
      apply G.block
      refine G.nm [3, 4, 5, 6, 28, 29, 40, 41, 42] (h := ?_)
      refine G.loopX (fun q : Nat => ⟨[(3, .ptr 0 0 0), (4, .bool (cycU ps ks j || hasI (a.take q) (j : Int))), (5, .int .i64 (j : Nat)), (6, .sl 1 0 a.length), (28, .int .i64 ps.length), (29, .int .i64 (j : Nat)), (40, .sl 1 0 a.length), (41, .int .i64 a.length), (42, .int .i64 (q : Nat))], [some (2, [[.row false 3 (ps.map pv), .row false 5 (ks.map kv)]]), some (1, a.map iv)], 120⟩) (fun q => q ≤ a.length) (fun q => a.length - q) (0) (Nat.zero_le _) (by simp [hasI]) ?_
      intro q hq J2 hJ3
      have hwq : IntKind.i64.wrap ((q : Int) + 1) = ((q + 1 : Nat) : Int) := by rw [wrap64 (by omega) (by omega)]; omega
      apply G.seq
      refine G.rg tab_ok ok_lawReached (hk := ?_)
      apply G.seq
      refine G.iff (h1 := fun h4 => ?_) (h2 := fun h4 => ?_)
      · try simp only [decide_eq_true_eq, decide_eq_false_iff_not, Bool.and_eq_true, Bool.and_eq_false_imp, Bool.or_eq_true, Bool.or_eq_false_iff, Bool.not_eq_true', Bool.not_eq_false', bne_iff_ne, beq_iff_eq, bne_eq_false_iff_eq, beq_eq_false_iff_ne, ne_eq, Int.ofNat_lt, Int.not_lt, Int.not_le, Int.ofNat_le, Nat.not_lt, Nat.not_le, gt_iff_lt, ge_iff_le] at h4
        apply G.skip
        apply G.seq
        apply G.block
        apply G.seq
        have hqa : q < a.length := by omega
        refine G.rg tab_ok ok_lawReached (hk := ?_)
        apply G.seq
        have hka : a.getD q default ∈ reachL ps ks (j : Int) := by rw [ha]; exact getD_mem0 hqa
        have hkb := reach_bd hnk hj0 hka
        have hrk : reachO ps ks (a.getD q default) = (reachL ps ks (a.getD q default), true) := reachO_yes hnk (has_yes (by omega) (by omega))
        obtain ⟨b, hb⟩ : ∃ x, reachL ps ks (a.getD q default) = x := ⟨_, rfl⟩
        rw [hb] at hrk
        have hbl := reachL_len ps ks (a.getD q default)
        rw [hb] at hbl
        refine G.rg tab_ok ok_lawReached (hk := ?_)
        apply G.seq
        apply G.seq
        refine G.rg tab_ok ok_lawReached (hk := ?_)
        refine G.iffF (h2 := ?_)
        apply G.skip
        apply G.seq
        apply G.seq
        refine G.rg tab_ok ok_lawReached (hk := ?_)
        apply G.block
        have htb : List.take b.length (b.map iv) = b.map iv := List.take_of_length_le (by simp)
        refine G.nm [3, 4, 5, 6, 9, 28, 29, 40, 41, 42, 54, 55, 56] (h := ?_)
        refine G.loopX (fun s : Nat => ⟨[(3, .ptr 0 0 0), (4, .bool (cycU ps ks j || hasI (a.take q) (j : Int))), (5, .int .i64 (j : Nat)), (6, .sl 1 0 a.length), (9, .int .i64 (a.getD q default)), (28, .int .i64 ps.length), (29, .int .i64 (j : Nat)), (40, .sl 1 0 a.length), (41, .int .i64 a.length), (42, .int .i64 (q : Nat)), (54, .sl 2 0 b.length), (55, .int .i64 b.length), (56, .int .i64 (s : Nat))], [some (2, [[.row false 3 (ps.map pv), .row false 5 (ks.map kv)]]), some (1, a.map iv), some (1, b.map iv)], 120⟩) (fun s => s ≤ b.length) (fun s => b.length - s) (0) (Nat.zero_le _) (by simp) ?_
        intro s hs J2 hJ4
        have hws : IntKind.i64.wrap ((s : Int) + 1) = ((s + 1 : Nat) : Int) := by rw [wrap64 (by omega) (by omega)]; omega
        apply G.seq
        refine G.rg tab_ok ok_lawReached (hk := ?_)
        apply G.seq
        refine G.iff (h1 := fun h6 => ?_) (h2 := fun h6 => ?_)
        · try simp only [decide_eq_true_eq, decide_eq_false_iff_not, Bool.and_eq_true, Bool.and_eq_false_imp, Bool.or_eq_true, Bool.or_eq_false_iff, Bool.not_eq_true', Bool.not_eq_false', bne_iff_ne, beq_iff_eq, bne_eq_false_iff_eq, beq_eq_false_iff_ne, ne_eq, Int.ofNat_lt, Int.not_lt, Int.not_le, Int.ofNat_le, Nat.not_lt, Nat.not_le, gt_iff_lt, ge_iff_le] at h6
          apply G.skip
          apply G.seq
          apply G.block
          apply G.seq
          have hsb : s < b.length := by omega
          have hin : hasI a (b.getD s default) = true := by rw [← ha]; exact reach_in hnk hj0 hka (by rw [hb]; exact getD_mem0 hsb)
          refine G.rg tab_ok ok_lawReached (hk := ?_)
          apply G.seq
          refine G.rg tab_ok ok_lawReached (hk := ?_)
          apply G.seq
          apply G.seq
          refine G.rg tab_ok ok_lawReached (hk := ?_)
          apply G.block
          refine G.nm [3, 4, 5, 6, 9, 13, 14, 28, 29, 40, 41, 42, 54, 55, 56, 60, 61, 62] (h := ?_)
          refine G.loopX (fun r : Nat => ⟨[(3, .ptr 0 0 0), (4, .bool (cycU ps ks j || hasI (a.take q) (j : Int))), (5, .int .i64 (j : Nat)), (6, .sl 1 0 a.length), (9, .int .i64 (a.getD q default)), (13, .int .i64 (b.getD s default)), (14, .bool (hasI (a.take r) (b.getD s default))), (28, .int .i64 ps.length), (29, .int .i64 (j : Nat)), (40, .sl 1 0 a.length), (41, .int .i64 a.length), (42, .int .i64 (q : Nat)), (54, .sl 2 0 b.length), (55, .int .i64 b.length), (56, .int .i64 (s : Nat)), (60, .sl 1 0 a.length), (61, .int .i64 a.length), (62, .int .i64 (r : Nat))], [some (2, [[.row false 3 (ps.map pv), .row false 5 (ks.map kv)]]), some (1, a.map iv), some (1, b.map iv)], 120⟩) (fun r => r ≤ a.length) (fun r => a.length - r) (0) (Nat.zero_le _) (by simp [hasI]) ?_
          intro r hr J hJ
          have hwr : IntKind.i64.wrap ((r : Int) + 1) = ((r + 1 : Nat) : Int) := by rw [wrap64 (by omega) (by omega)]; omega
          apply G.seq
          refine G.rg tab_ok ok_lawReached (hk := ?_)
          apply G.seq
          refine G.iff (h1 := fun h7 => ?_) (h2 := fun h7 => ?_)
          · try simp only [decide_eq_true_eq, decide_eq_false_iff_not, Bool.and_eq_true, Bool.and_eq_false_imp, Bool.or_eq_true, Bool.or_eq_false_iff, Bool.not_eq_true', Bool.not_eq_false', bne_iff_ne, beq_iff_eq, bne_eq_false_iff_eq, beq_eq_false_iff_ne, ne_eq, Int.ofNat_lt, Int.not_lt, Int.not_le, Int.ofNat_le, Nat.not_lt, Nat.not_le, gt_iff_lt, ge_iff_le] at h7
            apply G.skip
            apply G.seq
            apply G.block
            apply G.seq
            have hra : r < a.length := by omega
            have hhs := has_succ hra (b.getD s default)
            refine G.rg tab_ok ok_lawReached (hk := ?_)
            cases hbv : hasI (a.take r) (b.getD s default)
            · skip
              refine G.rgN 2 tab_ok (kof_nil _) (hk := ?_)
              refine G.rdC tab_ok (kof_nil _) (hk := ?_)
              apply G.blk
              refine G.rg tab_ok ok_lawReached (hk := ?_)
              refine G.nm [3, 4, 5, 6, 9, 13, 14, 28, 29, 40, 41, 42, 54, 55, 56, 60, 61, 62] (h := ?_)
              exact G.upto (hJ (r + 1) (by omega) (by omega)) (by rw [hhs, hbv]; simp)
            · skip
              refine G.rgN 2 tab_ok (kof_nil _) (hk := ?_)
              refine G.rdC tab_ok (kof_nil _) (hk := ?_)
              apply G.blk
              refine G.rg tab_ok ok_lawReached (hk := ?_)
              refine G.nm [3, 4, 5, 6, 9, 13, 14, 28, 29, 40, 41, 42, 54, 55, 56, 60, 61, 62] (h := ?_)
              exact G.upto (hJ (r + 1) (by omega) (by omega)) (by rw [hhs, hbv]; simp)
          · try simp only [decide_eq_true_eq, decide_eq_false_iff_not, Bool.and_eq_true, Bool.and_eq_false_imp, Bool.or_eq_true, Bool.or_eq_false_iff, Bool.not_eq_true', Bool.not_eq_false', bne_iff_ne, beq_iff_eq, bne_eq_false_iff_eq, beq_eq_false_iff_ne, ne_eq, Int.ofNat_lt, Int.not_lt, Int.not_le, Int.ofNat_le, Nat.not_lt, Nat.not_le, gt_iff_lt, ge_iff_le] at h7
            refine G.exit rfl ?_
            apply G.seq
            obtain rfl : r = a.length := by omega
            rw [has_all, hin]
            clear hJ
            refine G.rg tab_ok ok_lawReached (hk := ?_)
            refine G.iffF (h2 := ?_)
            apply G.skip
            apply G.blk
            refine G.rg tab_ok ok_lawReached (hk := ?_)
            refine G.nm [3, 4, 5, 6, 9, 28, 29, 40, 41, 42, 54, 55, 56] (h := ?_)
            exact G.upto (hJ4 (s + 1) (by omega) (by omega)) (by simp)
        · try simp only [decide_eq_true_eq, decide_eq_false_iff_not, Bool.and_eq_true, Bool.and_eq_false_imp, Bool.or_eq_true, Bool.or_eq_false_iff, Bool.not_eq_true', Bool.not_eq_false', bne_iff_ne, beq_iff_eq, bne_eq_false_iff_eq, beq_eq_false_iff_ne, ne_eq, Int.ofNat_lt, Int.not_lt, Int.not_le, Int.ofNat_le, Nat.not_lt, Nat.not_le, gt_iff_lt, ge_iff_le] at h6
          refine G.exit rfl ?_
          cases hbv : (cycU ps ks j || hasI (a.take q) (j : Int))
          · skip
            have hhq := has_succ hqa (j : Int)
            refine G.rgN 2 tab_ok (kof_nil _) (hk := ?_)
            refine G.rdC tab_ok (kof_nil _) (hk := ?_)
            apply G.blk
            refine G.rg tab_ok ok_lawReached (hk := ?_)
            refine G.nm [3, 4, 5, 6, 28, 29, 40, 41, 42] (h := ?_)
            exact G.upto (hJ3 (q + 1) (by omega) (by omega)) (by simp [hhq, ← Bool.or_assoc, hbv])
          · skip
            have hhq := has_succ hqa (j : Int)
            refine G.rgN 2 tab_ok (kof_nil _) (hk := ?_)
            refine G.rdC tab_ok (kof_nil _) (hk := ?_)
            apply G.blk
            refine G.rg tab_ok ok_lawReached (hk := ?_)
            refine G.nm [3, 4, 5, 6, 28, 29, 40, 41, 42] (h := ?_)
            exact G.upto (hJ3 (q + 1) (by omega) (by omega)) (by simp [hhq, ← Bool.or_assoc, hbv])
      · try simp only [decide_eq_true_eq, decide_eq_false_iff_not, Bool.and_eq_true, Bool.and_eq_false_imp, Bool.or_eq_true, Bool.or_eq_false_iff, Bool.not_eq_true', Bool.not_eq_false', bne_iff_ne, beq_iff_eq, bne_eq_false_iff_eq, beq_eq_false_iff_ne, ne_eq, Int.ofNat_lt, Int.not_lt, Int.not_le, Int.ofNat_le, Nat.not_lt, Nat.not_le, gt_iff_lt, ge_iff_le] at h4
        refine G.exit rfl ?_
        apply G.blk
        obtain rfl : q = a.length := by omega
        have hcj : cycU ps ks (j + 1) = (cycU ps ks j || hasI (a.take a.length) (j : Int)) := by rw [has_all, hcy]; rfl
        refine G.rg tab_ok ok_lawReached (hk := ?_)
        refine G.nm [3, 4, 28, 29] (h := ?_)
        exact G.upto (hJ2 (j + 1) (by omega) (by omega)) (by simp [hcj])
    · try simp only [decide_eq_true_eq, decide_eq_false_iff_not, Bool.and_eq_true, Bool.and_eq_false_imp, Bool.or_eq_true, Bool.or_eq_false_iff, Bool.not_eq_true', Bool.not_eq_false', bne_iff_ne, beq_iff_eq, bne_eq_false_iff_eq, beq_eq_false_iff_ne, ne_eq, Int.ofNat_lt, Int.not_lt, Int.not_le, Int.ofNat_le, Nat.not_lt, Nat.not_le, gt_iff_lt, ge_iff_le] at h2
      refine G.exit rfl ?_
      apply G.seq
      obtain rfl : j = ps.length := by omega
      have hcO := cycO_eq hnk
      refine G.rg tab_ok ok_lawReached (hk := ?_)
      apply G.seq
      refine G.rg tab_ok ok_lawReached (hk := ?_)
      apply G.seq
      apply G.seq
      refine G.rg tab_ok ok_lawReached (hk := ?_)
      apply G.block
      refine G.nm [3, 4, 17, 18, 85, 86, 87] (h := ?_)
      refine G.loopX (fun j : Nat => ⟨[(3, .ptr 0 0 0), (4, .bool (cycU ps ks ps.length)), (17, .int .i64 ((whereL isIn ks j).length : Nat)), (18, .int .i64 ((whereL isOut ks j).length : Nat)), (85, .row false 5 (ks.map kv)), (86, .int .i64 ks.length), (87, .int .i64 (j : Nat))], [some (2, [[.row false 3 (ps.map pv), .row false 5 (ks.map kv)]])], 120⟩) (fun j => j ≤ ks.length) (fun j => ks.length - j) (0) (Nat.zero_le _) (by simp [whereL]) ?_
      intro j hj J hJ
      have hw : IntKind.i64.wrap ((j : Int) + 1) = ((j + 1 : Nat) : Int) := by rw [wrap64 (by omega) (by omega)]; omega
      apply G.seq
      refine G.rg tab_ok ok_lawReached (hk := ?_)
      apply G.seq
      refine G.iff (h1 := fun h9 => ?_) (h2 := fun h9 => ?_)
      · try simp only [decide_eq_true_eq, decide_eq_false_iff_not, Bool.and_eq_true, Bool.and_eq_false_imp, Bool.or_eq_true, Bool.or_eq_false_iff, Bool.not_eq_true', Bool.not_eq_false', bne_iff_ne, beq_iff_eq, bne_eq_false_iff_eq, beq_eq_false_iff_ne, ne_eq, Int.ofNat_lt, Int.not_lt, Int.not_le, Int.ofNat_le, Nat.not_lt, Nat.not_le, gt_iff_lt, ge_iff_le] at h9
        apply G.skip
        apply G.seq
        apply G.block
        apply G.seq
        have hjk : j < ks.length := by omega
        have hI2 : whereL isIn ks (j + 1) = if (ks.getD j default).fr = -1 then whereL isIn ks j ++ [(j : Int)] else whereL isIn ks j := by simp [whereL, isIn]
        have hO2 : whereL isOut ks (j + 1) = if (ks.getD j default).to = -1 then whereL isOut ks j ++ [(j : Int)] else whereL isOut ks j := by simp [whereL, isOut]
        have hli := whereL_len isIn ks j
        have hlo := whereL_len isOut ks j
        have hwi : IntKind.i64.wrap (((whereL isIn ks j).length : Int) + 1) = (((whereL isIn ks j).length + 1 : Nat) : Int) := by rw [wrap64 (by omega) (by omega)]; omega
        have hwo : IntKind.i64.wrap (((whereL isOut ks j).length : Int) + 1) = (((whereL isOut ks j).length + 1 : Nat) : Int) := by rw [wrap64 (by omega) (by omega)]; omega
        refine G.rg tab_ok ok_lawReached (hk := ?_)
        apply G.seq
        apply G.seq
        refine G.rg tab_ok ok_lawReached (hk := ?_)
        refine G.iff (h1 := fun h10 => ?_) (h2 := fun h10 => ?_)
        · try simp only [decide_eq_true_eq, decide_eq_false_iff_not, Bool.and_eq_true, Bool.and_eq_false_imp, Bool.or_eq_true, Bool.or_eq_false_iff, Bool.not_eq_true', Bool.not_eq_false', bne_iff_ne, beq_iff_eq, bne_eq_false_iff_eq, beq_eq_false_iff_ne, ne_eq, Int.ofNat_lt, Int.not_lt, Int.not_le, Int.ofNat_le, Nat.not_lt, Nat.not_le, gt_iff_lt, ge_iff_le] at h10
          refine G.rg tab_ok ok_lawReached (hk := ?_)
          apply G.seq
          refine G.rg tab_ok ok_lawReached (hk := ?_)
          refine G.fg [3, 4, 17, 18, 85, 86, 87, 98] (hk := ?_)
          refine G.iff (h1 := fun h11 => ?_) (h2 := fun h11 => ?_)
          · try simp only [decide_eq_true_eq, decide_eq_false_iff_not, Bool.and_eq_true, Bool.and_eq_false_imp, Bool.or_eq_true, Bool.or_eq_false_iff, Bool.not_eq_true', Bool.not_eq_false', bne_iff_ne, beq_iff_eq, bne_eq_false_iff_eq, beq_eq_false_iff_ne, ne_eq, Int.ofNat_lt, Int.not_lt, Int.not_le, Int.ofNat_le, Nat.not_lt, Nat.not_le, gt_iff_lt, ge_iff_le] at h11
            refine G.rg tab_ok ok_lawReached (hk := ?_)
            apply G.blk
            refine G.rg tab_ok ok_lawReached (hk := ?_)
            refine G.nm [3, 4, 17, 18, 85, 86, 87] (h := ?_)
            exact G.upto (hJ (j + 1) (by omega) (by omega)) (by first | (rw [hI2, hO2, if_pos h10, if_pos h11 ] <;> simp; done) | (rw [hI2, hO2, if_pos h10, if_neg h11 ] <;> simp; done) | (rw [hI2, hO2, if_neg h10, if_pos h11 ] <;> simp; done) | (rw [hI2, hO2, if_neg h10, if_neg h11 ] <;> simp; done))
          · try simp only [decide_eq_true_eq, decide_eq_false_iff_not, Bool.and_eq_true, Bool.and_eq_false_imp, Bool.or_eq_true, Bool.or_eq_false_iff, Bool.not_eq_true', Bool.not_eq_false', bne_iff_ne, beq_iff_eq, bne_eq_false_iff_eq, beq_eq_false_iff_ne, ne_eq, Int.ofNat_lt, Int.not_lt, Int.not_le, Int.ofNat_le, Nat.not_lt, Nat.not_le, gt_iff_lt, ge_iff_le] at h11
            apply G.skip
            apply G.blk
            refine G.rg tab_ok ok_lawReached (hk := ?_)
            refine G.nm [3, 4, 17, 18, 85, 86, 87] (h := ?_)
            exact G.upto (hJ (j + 1) (by omega) (by omega)) (by first | (rw [hI2, hO2, if_pos h10, if_pos h11 ] <;> simp; done) | (rw [hI2, hO2, if_pos h10, if_neg h11 ] <;> simp; done) | (rw [hI2, hO2, if_neg h10, if_pos h11 ] <;> simp; done) | (rw [hI2, hO2, if_neg h10, if_neg h11 ] <;> simp; done))
        · try simp only [decide_eq_true_eq, decide_eq_false_iff_not, Bool.and_eq_true, Bool.and_eq_false_imp, Bool.or_eq_true, Bool.or_eq_false_iff, Bool.not_eq_true', Bool.not_eq_false', bne_iff_ne, beq_iff_eq, bne_eq_false_iff_eq, beq_eq_false_iff_ne, ne_eq, Int.ofNat_lt, Int.not_lt, Int.not_le, Int.ofNat_le, Nat.not_lt, Nat.not_le, gt_iff_lt, ge_iff_le] at h10
          apply G.skip
          apply G.seq
          refine G.rg tab_ok ok_lawReached (hk := ?_)
          refine G.fg [3, 4, 17, 18, 85, 86, 87, 98] (hk := ?_)
          refine G.iff (h1 := fun h12 => ?_) (h2 := fun h12 => ?_)
          · try simp only [decide_eq_true_eq, decide_eq_false_iff_not, Bool.and_eq_true, Bool.and_eq_false_imp, Bool.or_eq_true, Bool.or_eq_false_iff, Bool.not_eq_true', Bool.not_eq_false', bne_iff_ne, beq_iff_eq, bne_eq_false_iff_eq, beq_eq_false_iff_ne, ne_eq, Int.ofNat_lt, Int.not_lt, Int.not_le, Int.ofNat_le, Nat.not_lt, Nat.not_le, gt_iff_lt, ge_iff_le] at h12
            refine G.rg tab_ok ok_lawReached (hk := ?_)
            apply G.blk
            refine G.rg tab_ok ok_lawReached (hk := ?_)
            refine G.nm [3, 4, 17, 18, 85, 86, 87] (h := ?_)
            exact G.upto (hJ (j + 1) (by omega) (by omega)) (by first | (rw [hI2, hO2, if_pos h10, if_pos h12 ] <;> simp; done) | (rw [hI2, hO2, if_pos h10, if_neg h12 ] <;> simp; done) | (rw [hI2, hO2, if_neg h10, if_pos h12 ] <;> simp; done) | (rw [hI2, hO2, if_neg h10, if_neg h12 ] <;> simp; done))
          · try simp only [decide_eq_true_eq, decide_eq_false_iff_not, Bool.and_eq_true, Bool.and_eq_false_imp, Bool.or_eq_true, Bool.or_eq_false_iff, Bool.not_eq_true', Bool.not_eq_false', bne_iff_ne, beq_iff_eq, bne_eq_false_iff_eq, beq_eq_false_iff_ne, ne_eq, Int.ofNat_lt, Int.not_lt, Int.not_le, Int.ofNat_le, Nat.not_lt, Nat.not_le, gt_iff_lt, ge_iff_le] at h12
            apply G.skip
            apply G.blk
            refine G.rg tab_ok ok_lawReached (hk := ?_)
            refine G.nm [3, 4, 17, 18, 85, 86, 87] (h := ?_)
            exact G.upto (hJ (j + 1) (by omega) (by omega)) (by first | (rw [hI2, hO2, if_pos h10, if_pos h12 ] <;> simp; done) | (rw [hI2, hO2, if_pos h10, if_neg h12 ] <;> simp; done) | (rw [hI2, hO2, if_neg h10, if_pos h12 ] <;> simp; done) | (rw [hI2, hO2, if_neg h10, if_neg h12 ] <;> simp; done))
      · try simp only [decide_eq_true_eq, decide_eq_false_iff_not, Bool.and_eq_true, Bool.and_eq_false_imp, Bool.or_eq_true, Bool.or_eq_false_iff, Bool.not_eq_true', Bool.not_eq_false', bne_iff_ne, beq_iff_eq, bne_eq_false_iff_eq, beq_eq_false_iff_ne, ne_eq, Int.ofNat_lt, Int.not_lt, Int.not_le, Int.ofNat_le, Nat.not_lt, Nat.not_le, gt_iff_lt, ge_iff_le] at h9
        refine G.exit rfl ?_
        apply G.seq
        obtain rfl : j = ks.length := by omega
        have hpi : putsO isIn ps ks = whereL isIn ks ks.length := by unfold putsO; rw [if_pos hnk]
        have hpo2 : putsO isOut ps ks = whereL isOut ks ks.length := by unfold putsO; rw [if_pos hnk]
        refine G.rgN 5 tab_ok ok_lawReached (hk := ?_)
        refine G.rdN 7 tab_ok ok_lawReached (hk := ?_)
        refine G.rdC tab_ok ok_lawReached (hk := ?_)
        refine G.fin tab_ok (hr := ?_)
        simp only [oneOrTup]
end Go.Proofs.Ytimgfinlbhodhaa.Ab
