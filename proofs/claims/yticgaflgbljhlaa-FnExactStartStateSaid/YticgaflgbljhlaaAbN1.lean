/- Walks of functions of the program: what each answers, for all arguments that meet its conditions. -/
import Derived.Test.YticgaflgbljhlaaAbNet1
import Derived.Test.YticgaflgbljhlaaAbNet
import Derived.Test.YticgaflgbljhlaaFwB
import Derived.Test.YticgaflgbljhlaaAbAuto2
namespace Go.Proofs.Yticgaflgbljhlaa.Ab
open Go
set_option linter.unusedVariables false
set_option linter.unusedSimpArgs false
set_option maxHeartbeats 4000000

theorem ok_szLink : Kn.ok Try.prog (kof [(114, q_szIntS)]) := kof_cons k_szIntS ((kof_nil _))
theorem szLink_ac (fr : Int) (ou : Int) (to : Int) (ip : Int) (tk : List Int) (n : Int) (hc1 : 0 ≤ n) (hc2 : n ≤ 1048576) (hc3 : tk.length < 17592186044416) : AC Try.prog 131 [.agg [.int .i64 fr, .int .i64 ou, .int .i64 to, .int .i64 ip, .row false 1 (tk.map iv)], .int .i64 n] (.int .i64 (if n - tk.length < 0 then -1 else n - tk.length)) := by
  have e_szIntS := e_szIntS
  refine AC.of tab_ok Try.func131 rfl (Nat.le_of_ble_eq_true rfl) fun w0 S0 => ?_
  change G _ _ ⟨[(0, .agg [.int .i64 fr, .int .i64 ou, .int .i64 to, .int .i64 ip, .row false 1 (tk.map iv)]), (1, .int .i64 n)], [], 12⟩
  apply G.seq
  refine G.rg tab_ok ok_szLink (hk := ?_)
  apply G.seq
  refine G.rg tab_ok ok_szLink (hk := ?_)
  apply G.seq
  apply G.seq
  refine G.rg tab_ok ok_szLink (hk := ?_)
  refine G.fg [1, 10] (hk := ?_)
  refine G.iff (h1 := fun h1 => ?_) (h2 := fun h1 => ?_)
  · try simp only [decide_eq_true_eq, decide_eq_false_iff_not, Bool.and_eq_true, Bool.and_eq_false_imp, Bool.or_eq_true, Bool.or_eq_false_iff, Bool.not_eq_true', Bool.not_eq_false', bne_iff_ne, beq_iff_eq, bne_eq_false_iff_eq, beq_eq_false_iff_ne, ne_eq, Int.ofNat_lt, Int.not_lt, Int.not_le, Int.ofNat_le, Nat.not_lt, Nat.not_le, gt_iff_lt, ge_iff_le] at h1
    apply G.seq
    refine G.rg tab_ok ok_szLink (hk := ?_)
    refine G.fin tab_ok (hr := ?_)
    simp only [oneOrTup]
    congr 1
    split at h1 <;> rename_i hh <;> simp only [hh, if_true, if_false]
    omega
  · try simp only [decide_eq_true_eq, decide_eq_false_iff_not, Bool.and_eq_true, Bool.and_eq_false_imp, Bool.or_eq_true, Bool.or_eq_false_iff, Bool.not_eq_true', Bool.not_eq_false', bne_iff_ne, beq_iff_eq, bne_eq_false_iff_eq, beq_eq_false_iff_ne, ne_eq, Int.ofNat_lt, Int.not_lt, Int.not_le, Int.ofNat_le, Nat.not_lt, Nat.not_le, gt_iff_lt, ge_iff_le] at h1
    apply G.skip
    apply G.seq
    refine G.rg tab_ok ok_szLink (hk := ?_)
    refine G.fin tab_ok (hr := ?_)
    rfl
def r_szLink (xs0 : List A) (rr : A) : Prop := ∃ (fr : Int) (ou : Int) (to : Int) (ip : Int) (tk : List Int) (n : Int), (0 ≤ n) ∧ (n ≤ 1048576) ∧ (tk.length < 17592186044416) ∧ xs0 = [.agg [.int .i64 fr, .int .i64 ou, .int .i64 to, .int .i64 ip, .row false 1 (tk.map iv)], .int .i64 n] ∧ rr = .int .i64 (if n - tk.length < 0 then -1 else n - tk.length)
noncomputable def q_szLink : List A → Option A := kgr r_szLink
theorem k_szLink : KOk Try.prog (131, q_szLink) := kgr_ok (enters_of Try.func131 rfl rfl) (by rintro xs0 rr ⟨fr, ou, to, ip, tk, n, hc1, hc2, hc3, rfl, rfl⟩; exact szLink_ac fr ou to ip tk n hc1 hc2 hc3)
theorem e_szLink : ∀ (fr : Int) (ou : Int) (to : Int) (ip : Int) (tk : List Int) (n : Int), (0 ≤ n) → (n ≤ 1048576) → (tk.length < 17592186044416) → q_szLink [.agg [.int .i64 fr, .int .i64 ou, .int .i64 to, .int .i64 ip, .row false 1 (tk.map iv)], .int .i64 n] = some (.int .i64 (if n - tk.length < 0 then -1 else n - tk.length)) := by
  intro fr ou to ip tk n hc1 hc2 hc3
  refine kgr_eq (fun xs0 rr r2 h h2 => ?_) ⟨fr, ou, to, ip, tk, n, hc1, hc2, hc3, rfl, rfl⟩
  obtain ⟨fr1, ou1, to1, ip1, tk1, n1, _, _, _, e1, rfl⟩ := h; obtain ⟨fr2, ou2, to2, ip2, tk2, n2, _, _, _, e2, rfl⟩ := h2
  rw [e1] at e2
  simp only [List.cons.injEq, A.int.injEq, A.bool.injEq, A.agg.injEq, A.row.injEq, A.fn.injEq, A.rp.injEq, insv_inj, iv_inj, true_and, and_true] at e2
  simp [e2]

theorem ok_szProgramS : Kn.ok Try.prog (kof [(130, q_szProgram)]) := kof_cons k_szProgram ((kof_nil _))
theorem szProgramS_ac (ps : List PG) (n : Int) (hc1 : 0 ≤ n) (hc2 : n ≤ 1048576) (hc3 : ps.length < 3518437208781) (hc4 : NW ps) : AC Try.prog 62 [.row false 3 (ps.map pv), .int .i64 n] (.int .i64 (szT n ps.length (gtot pL ps))) := by
  have e_szProgram := e_szProgram
  have hw0 : IntKind.i64.wrap (n - (ps.length : Int)) = n - ps.length := wrap64 (by omega) (by omega)
  refine AC.of tab_ok Try.func62 rfl (Nat.le_of_ble_eq_true rfl) fun w0 S0 => ?_
  change G _ _ ⟨[(0, .row false 3 (ps.map pv)), (1, .int .i64 n)], [], 27⟩
  apply G.seq
  refine G.rg tab_ok ok_szProgramS (hk := ?_)
  apply G.seq
  refine G.rg tab_ok ok_szProgramS (hk := ?_)
  apply G.seq
  apply G.seq
  refine G.rg tab_ok ok_szProgramS (hk := ?_)
  refine G.iff (h1 := fun h1 => ?_) (h2 := fun h1 => ?_)
  · try simp only [decide_eq_true_eq, decide_eq_false_iff_not, Bool.and_eq_true, Bool.and_eq_false_imp, Bool.or_eq_true, Bool.or_eq_false_iff, Bool.not_eq_true', Bool.not_eq_false', bne_iff_ne, beq_iff_eq, bne_eq_false_iff_eq, beq_eq_false_iff_ne, ne_eq, Int.ofNat_lt, Int.not_lt, Int.not_le, Int.ofNat_le, Nat.not_lt, Nat.not_le, gt_iff_lt, ge_iff_le] at h1
    apply G.seq
    refine G.rg tab_ok ok_szProgramS (hk := ?_)
    refine G.fin tab_ok (hr := ?_)
    simp only [oneOrTup]
    congr 1
    unfold szT
    rw [if_pos (by omega)]
  · try simp only [decide_eq_true_eq, decide_eq_false_iff_not, Bool.and_eq_true, Bool.and_eq_false_imp, Bool.or_eq_true, Bool.or_eq_false_iff, Bool.not_eq_true', Bool.not_eq_false', bne_iff_ne, beq_iff_eq, bne_eq_false_iff_eq, beq_eq_false_iff_ne, ne_eq, Int.ofNat_lt, Int.not_lt, Int.not_le, Int.ofNat_le, Nat.not_lt, Nat.not_le, gt_iff_lt, ge_iff_le] at h1
    apply G.skip
    apply G.seq
    apply G.seq
    refine G.rg tab_ok ok_szProgramS (hk := ?_)
    apply G.block
    refine G.cn [0, 1, 5] [] (h := ?_)
    refine G.loopX (fun j : Nat => ⟨[(0, .row false 3 (ps.map pv)), (1, .int .i64 (n - (ps.length : Int) - (gtot pL (ps.take j) : Int))), (5, .int .i64 j)], [], 27⟩) (fun j => j ≤ ps.length ∧ 0 ≤ n - (ps.length : Int) - (gtot pL (ps.take j) : Int)) (fun j => ps.length - j) (0) (⟨Nat.zero_le _, by simp only [List.take_zero, gtot_nil]; omega⟩) (by simp [gtot_nil]) ?_
    intro j hj J hJ
    obtain ⟨hj, hk⟩ := hj
    have hk2 : n - (ps.length : Int) - (gtot pL (ps.take j) : Int) ≤ 1048576 := by omega
    have hw : IntKind.i64.wrap ((j : Int) + 1) = (j : Int) + 1 := wrap64 (by omega) (by omega)
    apply G.seq
    apply G.seq
    refine G.rg tab_ok ok_szProgramS (hk := ?_)
    refine G.iff (h1 := fun h2 => ?_) (h2 := fun h2 => ?_)
    · try simp only [decide_eq_true_eq, decide_eq_false_iff_not, Bool.and_eq_true, Bool.and_eq_false_imp, Bool.or_eq_true, Bool.or_eq_false_iff, Bool.not_eq_true', Bool.not_eq_false', bne_iff_ne, beq_iff_eq, bne_eq_false_iff_eq, beq_eq_false_iff_ne, ne_eq, Int.ofNat_lt, Int.not_lt, Int.not_le, Int.ofNat_le, Nat.not_lt, Nat.not_le, gt_iff_lt, ge_iff_le] at h2
      apply G.skip
      apply G.seq
      apply G.block
      apply G.seq
      have hlr : (ps.getD j default).l.length < 4398046511104 := hc4 _ (getD_mem0 h2)
      refine G.rg tab_ok ok_szProgramS (hk := ?_)
      apply G.seq
      refine G.rg tab_ok ok_szProgramS (hk := ?_)
      refine G.fg [0, 1, 5, 25] (hk := ?_)
      refine G.iff (h1 := fun h3 => ?_) (h2 := fun h3 => ?_)
      · try simp only [decide_eq_true_eq, decide_eq_false_iff_not, Bool.and_eq_true, Bool.and_eq_false_imp, Bool.or_eq_true, Bool.or_eq_false_iff, Bool.not_eq_true', Bool.not_eq_false', bne_iff_ne, beq_iff_eq, bne_eq_false_iff_eq, beq_eq_false_iff_ne, ne_eq, Int.ofNat_lt, Int.not_lt, Int.not_le, Int.ofNat_le, Nat.not_lt, Nat.not_le, gt_iff_lt, ge_iff_le] at h3
        apply G.seq
        refine G.rg tab_ok ok_szProgramS (hk := ?_)
        refine G.fin tab_ok (hr := ?_)
        simp only [oneOrTup]
        congr 1
        symm
        split at h3
        · rename_i hh
          exact szT_neg (f := pL) h2 hh
        · omega
      · try simp only [decide_eq_true_eq, decide_eq_false_iff_not, Bool.and_eq_true, Bool.and_eq_false_imp, Bool.or_eq_true, Bool.or_eq_false_iff, Bool.not_eq_true', Bool.not_eq_false', bne_iff_ne, beq_iff_eq, bne_eq_false_iff_eq, beq_eq_false_iff_ne, ne_eq, Int.ofNat_lt, Int.not_lt, Int.not_le, Int.ofNat_le, Nat.not_lt, Nat.not_le, gt_iff_lt, ge_iff_le] at h3
        apply G.skip
        apply G.blk
        refine G.rg tab_ok ok_szProgramS (hk := ?_)
        refine G.cn [0, 1, 5] [] (h := ?_)
        split at h3
        · omega
        rename_i hh
        rw [if_neg hh]
        obtain ⟨hv, hpos⟩ := szT_step (f := pL) h2 hk hh
        exact G.upto (hJ (j + 1) ⟨by omega, hpos⟩ (by omega)) (by rw [← hv]; simp)
    · try simp only [decide_eq_true_eq, decide_eq_false_iff_not, Bool.and_eq_true, Bool.and_eq_false_imp, Bool.or_eq_true, Bool.or_eq_false_iff, Bool.not_eq_true', Bool.not_eq_false', bne_iff_ne, beq_iff_eq, bne_eq_false_iff_eq, beq_eq_false_iff_ne, ne_eq, Int.ofNat_lt, Int.not_lt, Int.not_le, Int.ofNat_le, Nat.not_lt, Nat.not_le, gt_iff_lt, ge_iff_le] at h2
      refine G.exit rfl ?_
      apply G.seq
      refine G.rg tab_ok ok_szProgramS (hk := ?_)
      obtain rfl : j = ps.length := by omega
      rw [List.take_length] at hk ⊢
      refine G.fin tab_ok (hr := ?_)
      simp only [oneOrTup]
      congr 1
      unfold szT
      rw [if_neg (by omega)]
def r_szProgramS (xs0 : List A) (rr : A) : Prop := ∃ (ps : List PG) (n : Int), (0 ≤ n) ∧ (n ≤ 1048576) ∧ (ps.length < 3518437208781) ∧ (NW ps) ∧ xs0 = [.row false 3 (ps.map pv), .int .i64 n] ∧ rr = .int .i64 (szT n ps.length (gtot pL ps))
noncomputable def q_szProgramS : List A → Option A := kgr r_szProgramS
theorem k_szProgramS : KOk Try.prog (62, q_szProgramS) := kgr_ok (enters_of Try.func62 rfl rfl) (by rintro xs0 rr ⟨ps, n, hc1, hc2, hc3, hc4, rfl, rfl⟩; exact szProgramS_ac ps n hc1 hc2 hc3 hc4)
theorem e_szProgramS : ∀ (ps : List PG) (n : Int), (0 ≤ n) → (n ≤ 1048576) → (ps.length < 3518437208781) → (NW ps) → q_szProgramS [.row false 3 (ps.map pv), .int .i64 n] = some (.int .i64 (szT n ps.length (gtot pL ps))) := by
  intro ps n hc1 hc2 hc3 hc4
  refine kgr_eq (fun xs0 rr r2 h h2 => ?_) ⟨ps, n, hc1, hc2, hc3, hc4, rfl, rfl⟩
  obtain ⟨ps1, n1, _, _, _, _, e1, rfl⟩ := h; obtain ⟨ps2, n2, _, _, _, _, e2, rfl⟩ := h2
  rw [e1] at e2
  simp only [List.cons.injEq, A.int.injEq, A.bool.injEq, A.agg.injEq, A.row.injEq, A.fn.injEq, A.rp.injEq, insv_inj, iv_inj, pv_inj, kv_inj, av_inj, true_and, and_true] at e2
  simp [e2]

theorem ok_szLinkS : Kn.ok Try.prog (kof [(131, q_szLink)]) := kof_cons k_szLink ((kof_nil _))
theorem szLinkS_ac (ks : List LK) (n : Int) (hc1 : 0 ≤ n) (hc2 : n ≤ 1048576) (hc3 : ks.length < 2513169434844) (hc4 : KW ks) : AC Try.prog 63 [.row false 5 (ks.map kv), .int .i64 n] (.int .i64 (szT n ks.length (gtot kL ks))) := by
  have e_szLink := e_szLink
  have hw0 : IntKind.i64.wrap (n - (ks.length : Int)) = n - ks.length := wrap64 (by omega) (by omega)
  refine AC.of tab_ok Try.func63 rfl (Nat.le_of_ble_eq_true rfl) fun w0 S0 => ?_
  change G _ _ ⟨[(0, .row false 5 (ks.map kv)), (1, .int .i64 n)], [], 27⟩
  apply G.seq
  refine G.rg tab_ok ok_szLinkS (hk := ?_)
  apply G.seq
  refine G.rg tab_ok ok_szLinkS (hk := ?_)
  apply G.seq
  apply G.seq
  refine G.rg tab_ok ok_szLinkS (hk := ?_)
  refine G.iff (h1 := fun h1 => ?_) (h2 := fun h1 => ?_)
  · try simp only [decide_eq_true_eq, decide_eq_false_iff_not, Bool.and_eq_true, Bool.and_eq_false_imp, Bool.or_eq_true, Bool.or_eq_false_iff, Bool.not_eq_true', Bool.not_eq_false', bne_iff_ne, beq_iff_eq, bne_eq_false_iff_eq, beq_eq_false_iff_ne, ne_eq, Int.ofNat_lt, Int.not_lt, Int.not_le, Int.ofNat_le, Nat.not_lt, Nat.not_le, gt_iff_lt, ge_iff_le] at h1
    apply G.seq
    refine G.rg tab_ok ok_szLinkS (hk := ?_)
    refine G.fin tab_ok (hr := ?_)
    simp only [oneOrTup]
    congr 1
    unfold szT
    rw [if_pos (by omega)]
  · try simp only [decide_eq_true_eq, decide_eq_false_iff_not, Bool.and_eq_true, Bool.and_eq_false_imp, Bool.or_eq_true, Bool.or_eq_false_iff, Bool.not_eq_true', Bool.not_eq_false', bne_iff_ne, beq_iff_eq, bne_eq_false_iff_eq, beq_eq_false_iff_ne, ne_eq, Int.ofNat_lt, Int.not_lt, Int.not_le, Int.ofNat_le, Nat.not_lt, Nat.not_le, gt_iff_lt, ge_iff_le] at h1
    apply G.skip
    apply G.seq
    apply G.seq
    refine G.rg tab_ok ok_szLinkS (hk := ?_)
    apply G.block
    refine G.cn [0, 1, 5] [] (h := ?_)
    refine G.loopX (fun j : Nat => ⟨[(0, .row false 5 (ks.map kv)), (1, .int .i64 (n - (ks.length : Int) - (gtot kL (ks.take j) : Int))), (5, .int .i64 j)], [], 27⟩) (fun j => j ≤ ks.length ∧ 0 ≤ n - (ks.length : Int) - (gtot kL (ks.take j) : Int)) (fun j => ks.length - j) (0) (⟨Nat.zero_le _, by simp only [List.take_zero, gtot_nil]; omega⟩) (by simp [gtot_nil]) ?_
    intro j hj J hJ
    obtain ⟨hj, hk⟩ := hj
    have hk2 : n - (ks.length : Int) - (gtot kL (ks.take j) : Int) ≤ 1048576 := by omega
    have hw : IntKind.i64.wrap ((j : Int) + 1) = (j : Int) + 1 := wrap64 (by omega) (by omega)
    apply G.seq
    apply G.seq
    refine G.rg tab_ok ok_szLinkS (hk := ?_)
    refine G.iff (h1 := fun h2 => ?_) (h2 := fun h2 => ?_)
    · try simp only [decide_eq_true_eq, decide_eq_false_iff_not, Bool.and_eq_true, Bool.and_eq_false_imp, Bool.or_eq_true, Bool.or_eq_false_iff, Bool.not_eq_true', Bool.not_eq_false', bne_iff_ne, beq_iff_eq, bne_eq_false_iff_eq, beq_eq_false_iff_ne, ne_eq, Int.ofNat_lt, Int.not_lt, Int.not_le, Int.ofNat_le, Nat.not_lt, Nat.not_le, gt_iff_lt, ge_iff_le] at h2
      apply G.skip
      apply G.seq
      apply G.block
      apply G.seq
      have hlr : (ks.getD j default).tk.length < 17592186044416 := hc4 _ (getD_mem0 h2)
      refine G.rg tab_ok ok_szLinkS (hk := ?_)
      apply G.seq
      refine G.rg tab_ok ok_szLinkS (hk := ?_)
      refine G.fg [0, 1, 5, 25] (hk := ?_)
      refine G.iff (h1 := fun h3 => ?_) (h2 := fun h3 => ?_)
      · try simp only [decide_eq_true_eq, decide_eq_false_iff_not, Bool.and_eq_true, Bool.and_eq_false_imp, Bool.or_eq_true, Bool.or_eq_false_iff, Bool.not_eq_true', Bool.not_eq_false', bne_iff_ne, beq_iff_eq, bne_eq_false_iff_eq, beq_eq_false_iff_ne, ne_eq, Int.ofNat_lt, Int.not_lt, Int.not_le, Int.ofNat_le, Nat.not_lt, Nat.not_le, gt_iff_lt, ge_iff_le] at h3
        apply G.seq
        refine G.rg tab_ok ok_szLinkS (hk := ?_)
        refine G.fin tab_ok (hr := ?_)
        simp only [oneOrTup]
        congr 1
        symm
        split at h3
        · rename_i hh
          exact szT_neg (f := kL) h2 hh
        · omega
      · try simp only [decide_eq_true_eq, decide_eq_false_iff_not, Bool.and_eq_true, Bool.and_eq_false_imp, Bool.or_eq_true, Bool.or_eq_false_iff, Bool.not_eq_true', Bool.not_eq_false', bne_iff_ne, beq_iff_eq, bne_eq_false_iff_eq, beq_eq_false_iff_ne, ne_eq, Int.ofNat_lt, Int.not_lt, Int.not_le, Int.ofNat_le, Nat.not_lt, Nat.not_le, gt_iff_lt, ge_iff_le] at h3
        apply G.skip
        apply G.blk
        refine G.rg tab_ok ok_szLinkS (hk := ?_)
        refine G.cn [0, 1, 5] [] (h := ?_)
        split at h3
        · omega
        rename_i hh
        rw [if_neg hh]
        obtain ⟨hv, hpos⟩ := szT_step (f := kL) h2 hk hh
        exact G.upto (hJ (j + 1) ⟨by omega, hpos⟩ (by omega)) (by rw [← hv]; simp)
    · try simp only [decide_eq_true_eq, decide_eq_false_iff_not, Bool.and_eq_true, Bool.and_eq_false_imp, Bool.or_eq_true, Bool.or_eq_false_iff, Bool.not_eq_true', Bool.not_eq_false', bne_iff_ne, beq_iff_eq, bne_eq_false_iff_eq, beq_eq_false_iff_ne, ne_eq, Int.ofNat_lt, Int.not_lt, Int.not_le, Int.ofNat_le, Nat.not_lt, Nat.not_le, gt_iff_lt, ge_iff_le] at h2
      refine G.exit rfl ?_
      apply G.seq
      refine G.rg tab_ok ok_szLinkS (hk := ?_)
      obtain rfl : j = ks.length := by omega
      rw [List.take_length] at hk ⊢
      refine G.fin tab_ok (hr := ?_)
      simp only [oneOrTup]
      congr 1
      unfold szT
      rw [if_neg (by omega)]
def r_szLinkS (xs0 : List A) (rr : A) : Prop := ∃ (ks : List LK) (n : Int), (0 ≤ n) ∧ (n ≤ 1048576) ∧ (ks.length < 2513169434844) ∧ (KW ks) ∧ xs0 = [.row false 5 (ks.map kv), .int .i64 n] ∧ rr = .int .i64 (szT n ks.length (gtot kL ks))
noncomputable def q_szLinkS : List A → Option A := kgr r_szLinkS
theorem k_szLinkS : KOk Try.prog (63, q_szLinkS) := kgr_ok (enters_of Try.func63 rfl rfl) (by rintro xs0 rr ⟨ks, n, hc1, hc2, hc3, hc4, rfl, rfl⟩; exact szLinkS_ac ks n hc1 hc2 hc3 hc4)
theorem e_szLinkS : ∀ (ks : List LK) (n : Int), (0 ≤ n) → (n ≤ 1048576) → (ks.length < 2513169434844) → (KW ks) → q_szLinkS [.row false 5 (ks.map kv), .int .i64 n] = some (.int .i64 (szT n ks.length (gtot kL ks))) := by
  intro ks n hc1 hc2 hc3 hc4
  refine kgr_eq (fun xs0 rr r2 h h2 => ?_) ⟨ks, n, hc1, hc2, hc3, hc4, rfl, rfl⟩
  obtain ⟨ks1, n1, _, _, _, _, e1, rfl⟩ := h; obtain ⟨ks2, n2, _, _, _, _, e2, rfl⟩ := h2
  rw [e1] at e2
  simp only [List.cons.injEq, A.int.injEq, A.bool.injEq, A.agg.injEq, A.row.injEq, A.fn.injEq, A.rp.injEq, insv_inj, iv_inj, pv_inj, kv_inj, av_inj, true_and, and_true] at e2
  simp [e2]

theorem ok_szNetwork : Kn.ok Try.prog (kof [(62, q_szProgramS), (63, q_szLinkS)]) := kof_cons k_szProgramS (kof_cons k_szLinkS ((kof_nil _)))
theorem szNetwork_ac (ps : List PG) (ks : List LK) (n : Int) (hc1 : 0 ≤ n) (hc2 : n ≤ 1048576) (hc3 : NW ps) (hc4 : KW ks) (hc5 : ps.length < 3518437208781) (hc6 : ks.length < 2513169434844) : AC Try.prog 15 [.agg [.row false 3 (ps.map pv), .row false 5 (ks.map kv)], .int .i64 n] (.int .i64 (szNet n ps ks)) := by
  have e_szProgramS := e_szProgramS
  have e_szLinkS := e_szLinkS
  refine AC.of tab_ok Try.func15 rfl (Nat.le_of_ble_eq_true rfl) fun w0 S0 => ?_
  change G _ _ ⟨[(0, .agg [.row false 3 (ps.map pv), .row false 5 (ks.map kv)]), (1, .int .i64 n)], [], 18⟩
  apply G.seq
  refine G.rg tab_ok ok_szNetwork (hk := ?_)
  apply G.seq
  refine G.rg tab_ok ok_szNetwork (hk := ?_)
  apply G.seq
  apply G.seq
  refine G.rg tab_ok ok_szNetwork (hk := ?_)
  refine G.fg [1, 2, 10] (hk := ?_)
  refine G.iff (h1 := fun h1 => ?_) (h2 := fun h1 => ?_)
  · try simp only [decide_eq_true_eq, decide_eq_false_iff_not, Bool.and_eq_true, Bool.and_eq_false_imp, Bool.or_eq_true, Bool.or_eq_false_iff, Bool.not_eq_true', Bool.not_eq_false', bne_iff_ne, beq_iff_eq, bne_eq_false_iff_eq, beq_eq_false_iff_ne, ne_eq, Int.ofNat_lt, Int.not_lt, Int.not_le, Int.ofNat_le, Nat.not_lt, Nat.not_le, gt_iff_lt, ge_iff_le] at h1
    have hle := szT_le (n := n) (a := ps.length) (b := gtot pL ps) hc2
    apply G.seq
    refine G.rg tab_ok ok_szNetwork (hk := ?_)
    refine G.fin tab_ok (hr := ?_)
    simp only [oneOrTup]
    congr 1
    unfold szNet
    rw [if_pos h1]
  · try simp only [decide_eq_true_eq, decide_eq_false_iff_not, Bool.and_eq_true, Bool.and_eq_false_imp, Bool.or_eq_true, Bool.or_eq_false_iff, Bool.not_eq_true', Bool.not_eq_false', bne_iff_ne, beq_iff_eq, bne_eq_false_iff_eq, beq_eq_false_iff_ne, ne_eq, Int.ofNat_lt, Int.not_lt, Int.not_le, Int.ofNat_le, Nat.not_lt, Nat.not_le, gt_iff_lt, ge_iff_le] at h1
    have hle := szT_le (n := n) (a := ps.length) (b := gtot pL ps) hc2
    apply G.skip
    apply G.seq
    refine G.rg tab_ok ok_szNetwork (hk := ?_)
    apply G.seq
    apply G.seq
    refine G.rg tab_ok ok_szNetwork (hk := ?_)
    refine G.iff (h1 := fun h2 => ?_) (h2 := fun h2 => ?_)
    · try simp only [decide_eq_true_eq, decide_eq_false_iff_not, Bool.and_eq_true, Bool.and_eq_false_imp, Bool.or_eq_true, Bool.or_eq_false_iff, Bool.not_eq_true', Bool.not_eq_false', bne_iff_ne, beq_iff_eq, bne_eq_false_iff_eq, beq_eq_false_iff_ne, ne_eq, Int.ofNat_lt, Int.not_lt, Int.not_le, Int.ofNat_le, Nat.not_lt, Nat.not_le, gt_iff_lt, ge_iff_le] at h2
      apply G.seq
      refine G.rg tab_ok ok_szNetwork (hk := ?_)
      refine G.fin tab_ok (hr := ?_)
      simp only [oneOrTup]
      congr 1
      unfold szNet
      rw [if_neg (by omega), szT_lt h2]
    · try simp only [decide_eq_true_eq, decide_eq_false_iff_not, Bool.and_eq_true, Bool.and_eq_false_imp, Bool.or_eq_true, Bool.or_eq_false_iff, Bool.not_eq_true', Bool.not_eq_false', bne_iff_ne, beq_iff_eq, bne_eq_false_iff_eq, beq_eq_false_iff_ne, ne_eq, Int.ofNat_lt, Int.not_lt, Int.not_le, Int.ofNat_le, Nat.not_lt, Nat.not_le, gt_iff_lt, ge_iff_le] at h2
      apply G.skip
      apply G.seq
      refine G.rg tab_ok ok_szNetwork (hk := ?_)
      refine G.fin tab_ok (hr := ?_)
      simp only [oneOrTup]
      congr 1
      unfold szNet
      rw [if_neg (by omega)]
def r_szNetwork (xs0 : List A) (rr : A) : Prop := ∃ (ps : List PG) (ks : List LK) (n : Int), (0 ≤ n) ∧ (n ≤ 1048576) ∧ (NW ps) ∧ (KW ks) ∧ (ps.length < 3518437208781) ∧ (ks.length < 2513169434844) ∧ xs0 = [.agg [.row false 3 (ps.map pv), .row false 5 (ks.map kv)], .int .i64 n] ∧ rr = .int .i64 (szNet n ps ks)
noncomputable def q_szNetwork : List A → Option A := kgr r_szNetwork
theorem k_szNetwork : KOk Try.prog (15, q_szNetwork) := kgr_ok (enters_of Try.func15 rfl rfl) (by rintro xs0 rr ⟨ps, ks, n, hc1, hc2, hc3, hc4, hc5, hc6, rfl, rfl⟩; exact szNetwork_ac ps ks n hc1 hc2 hc3 hc4 hc5 hc6)
theorem e_szNetwork : ∀ (ps : List PG) (ks : List LK) (n : Int), (0 ≤ n) → (n ≤ 1048576) → (NW ps) → (KW ks) → (ps.length < 3518437208781) → (ks.length < 2513169434844) → q_szNetwork [.agg [.row false 3 (ps.map pv), .row false 5 (ks.map kv)], .int .i64 n] = some (.int .i64 (szNet n ps ks)) := by
  intro ps ks n hc1 hc2 hc3 hc4 hc5 hc6
  refine kgr_eq (fun xs0 rr r2 h h2 => ?_) ⟨ps, ks, n, hc1, hc2, hc3, hc4, hc5, hc6, rfl, rfl⟩
  obtain ⟨ps1, ks1, n1, _, _, _, _, _, _, e1, rfl⟩ := h; obtain ⟨ps2, ks2, n2, _, _, _, _, _, _, e2, rfl⟩ := h2
  rw [e1] at e2
  simp only [List.cons.injEq, A.int.injEq, A.agg.injEq, A.row.injEq, pv_inj, kv_inj, true_and, and_true] at e2
  obtain ⟨⟨e3, e4⟩, e5⟩ := e2
  subst e3 e4 e5
  rfl

theorem ok_toProgramS : Kn.ok Try.prog (kof [(138, q_toProgram)]) := kof_cons k_toProgram ((kof_nil _))
theorem toProgramS_ac (ps : List PG) (hc1 : ps.length < 3518437208781) (hc2 : NW ps) : AC Try.prog 71 [.row false 3 (ps.map pv)] (.row true 3 (ps.map opv)) := by
  have e_toProgram := e_toProgram
  have hb1 : (ps.length : Int) ≤ 4611686018427387904 := by omega
  have hb2 : 40 * (ps.length : Int) ≤ 140737488355328 := by omega
  refine AC.of tab_ok Try.func71 rfl (Nat.le_of_ble_eq_true rfl) fun w0 S0 => ?_
  change G _ _ ⟨[(0, .row false 3 (ps.map pv))], [], 23⟩
  apply G.seq
  refine G.rg tab_ok ok_toProgramS (hk := ?_)
  apply G.seq
  refine G.rg tab_ok ok_toProgramS (hk := ?_)
  apply G.seq
  apply G.seq
  refine G.rg tab_ok ok_toProgramS (hk := ?_)
  apply G.block
  refine G.cn [0, 3, 4] [0] (h := ?_)
  refine G.loopX (fun j : Nat => ⟨[(0, .row false 3 (ps.map pv)), (3, .sl 0 0 ps.length), (4, .int .i64 j)], [some (3, fillB opv ps [.int .i64 0, .int .i64 0, .nils] j)], 23⟩) (fun j => j ≤ ps.length) (fun j => ps.length - j) (0) (Nat.zero_le _) (by simp [fillB]) ?_
  intro j hj J hJ
  have hw : IntKind.i64.wrap ((j : Int) + 1) = (j : Int) + 1 := wrap64 (by omega) (by omega)
  have hlen := fillB_len opv [.int .i64 0, .int .i64 0, .nils] hj
  apply G.seq
  apply G.seq
  refine G.rg tab_ok ok_toProgramS (hk := ?_)
  refine G.iff (h1 := fun h1 => ?_) (h2 := fun h1 => ?_)
  · try simp only [decide_eq_true_eq, decide_eq_false_iff_not, Bool.and_eq_true, Bool.and_eq_false_imp, Bool.or_eq_true, Bool.or_eq_false_iff, Bool.not_eq_true', Bool.not_eq_false', bne_iff_ne, beq_iff_eq, bne_eq_false_iff_eq, beq_eq_false_iff_ne, ne_eq, Int.ofNat_lt, Int.not_lt, Int.not_le, Int.ofNat_le, Nat.not_lt, Nat.not_le, gt_iff_lt, ge_iff_le] at h1
    apply G.skip
    apply G.seq
    apply G.block
    have hg := fillB_get opv [.int .i64 0, .int .i64 0, .nils] h1
    have hlr : (ps.getD j default).l.length < 4398046511104 := hc2 _ (getD_mem0 h1)
    refine G.rg tab_ok ok_toProgramS (hk := ?_)
    refine G.unfocusFE 0 j 2 1 (f := opv) (l := ps) rfl h1 rfl rfl (by decide) (by simp) (by first | exact pureLL_insv _ | exact pureLL_iv _) rfl ?_
    apply G.blk
    refine G.rg tab_ok ok_toProgramS (hk := ?_)
    have hp := fillB_pure opv [.int .i64 0, .int .i64 0, .nils] (l := ps) (i := j + 1) (fun x => by simp [opv, pureL, pureA, pureLL_insv, pureLL_iv]) rfl
    refine G.cn [0, 3, 4] [0] (h := ?_)
    exact G.upto (hJ (j + 1) (by omega) (by omega)) (by simp)
  · try simp only [decide_eq_true_eq, decide_eq_false_iff_not, Bool.and_eq_true, Bool.and_eq_false_imp, Bool.or_eq_true, Bool.or_eq_false_iff, Bool.not_eq_true', Bool.not_eq_false', bne_iff_ne, beq_iff_eq, bne_eq_false_iff_eq, beq_eq_false_iff_ne, ne_eq, Int.ofNat_lt, Int.not_lt, Int.not_le, Int.ofNat_le, Nat.not_lt, Nat.not_le, gt_iff_lt, ge_iff_le] at h1
    refine G.exit rfl ?_
    apply G.seq
    refine G.rg tab_ok ok_toProgramS (hk := ?_)
    obtain rfl : j = ps.length := by omega
    rw [fillB_full]
    refine G.fin tab_ok (hr := ?_)
    rfl
def r_toProgramS (xs0 : List A) (rr : A) : Prop := ∃ (ps : List PG), (ps.length < 3518437208781) ∧ (NW ps) ∧ xs0 = [.row false 3 (ps.map pv)] ∧ rr = .row true 3 (ps.map opv)
noncomputable def q_toProgramS : List A → Option A := kgr r_toProgramS
theorem k_toProgramS : KOk Try.prog (71, q_toProgramS) := kgr_ok (enters_of Try.func71 rfl rfl) (by rintro xs0 rr ⟨ps, hc1, hc2, rfl, rfl⟩; exact toProgramS_ac ps hc1 hc2)
theorem e_toProgramS : ∀ (ps : List PG), (ps.length < 3518437208781) → (NW ps) → q_toProgramS [.row false 3 (ps.map pv)] = some (.row true 3 (ps.map opv)) := by
  intro ps hc1 hc2
  refine kgr_eq (fun xs0 rr r2 h h2 => ?_) ⟨ps, hc1, hc2, rfl, rfl⟩
  obtain ⟨ps1, _, _, e1, rfl⟩ := h; obtain ⟨ps2, _, _, e2, rfl⟩ := h2
  rw [e1] at e2
  simp only [List.cons.injEq, A.int.injEq, A.bool.injEq, A.agg.injEq, A.row.injEq, A.fn.injEq, A.rp.injEq, insv_inj, iv_inj, pv_inj, kv_inj, av_inj, true_and, and_true] at e2
  simp [e2]

theorem ok_toLink : Kn.ok Try.prog (kof [(29, q_toIntS)]) := kof_cons k_toIntS ((kof_nil _))
theorem toLink_ac (fr : Int) (ou : Int) (to : Int) (ip : Int) (tk : List Int) (hc1 : tk.length < 17592186044416) : AC Try.prog 139 [.agg [.int .i64 fr, .int .i64 ou, .int .i64 to, .int .i64 ip, .row false 1 (tk.map iv)]] (.agg [.int .i64 fr, .int .i64 ou, .int .i64 to, .int .i64 ip, .row true 1 (tk.map iv)]) := by
  have e_toIntS := e_toIntS
  refine AC.of tab_ok Try.func139 rfl (Nat.le_of_ble_eq_true rfl) fun w0 S0 => ?_
  change G _ _ ⟨[(0, .agg [.int .i64 fr, .int .i64 ou, .int .i64 to, .int .i64 ip, .row false 1 (tk.map iv)])], [], 21⟩
  apply G.seq
  refine G.rg tab_ok ok_toLink (hk := ?_)
  apply G.seq
  refine G.rg tab_ok ok_toLink (hk := ?_)
  apply G.seq
  refine G.rg tab_ok ok_toLink (hk := ?_)
  apply G.seq
  refine G.rg tab_ok ok_toLink (hk := ?_)
  apply G.seq
  refine G.rg tab_ok ok_toLink (hk := ?_)
  apply G.seq
  refine G.rg tab_ok ok_toLink (hk := ?_)
  apply G.seq
  refine G.rg tab_ok ok_toLink (hk := ?_)
  apply G.seq
  refine G.rg tab_ok ok_toLink (hk := ?_)
  refine G.fin tab_ok (hr := ?_)
  rfl
def r_toLink (xs0 : List A) (rr : A) : Prop := ∃ (fr : Int) (ou : Int) (to : Int) (ip : Int) (tk : List Int), (tk.length < 17592186044416) ∧ xs0 = [.agg [.int .i64 fr, .int .i64 ou, .int .i64 to, .int .i64 ip, .row false 1 (tk.map iv)]] ∧ rr = .agg [.int .i64 fr, .int .i64 ou, .int .i64 to, .int .i64 ip, .row true 1 (tk.map iv)]
noncomputable def q_toLink : List A → Option A := kgr r_toLink
theorem k_toLink : KOk Try.prog (139, q_toLink) := kgr_ok (enters_of Try.func139 rfl rfl) (by rintro xs0 rr ⟨fr, ou, to, ip, tk, hc1, rfl, rfl⟩; exact toLink_ac fr ou to ip tk hc1)
theorem e_toLink : ∀ (fr : Int) (ou : Int) (to : Int) (ip : Int) (tk : List Int), (tk.length < 17592186044416) → q_toLink [.agg [.int .i64 fr, .int .i64 ou, .int .i64 to, .int .i64 ip, .row false 1 (tk.map iv)]] = some (.agg [.int .i64 fr, .int .i64 ou, .int .i64 to, .int .i64 ip, .row true 1 (tk.map iv)]) := by
  intro fr ou to ip tk hc1
  refine kgr_eq (fun xs0 rr r2 h h2 => ?_) ⟨fr, ou, to, ip, tk, hc1, rfl, rfl⟩
  obtain ⟨fr1, ou1, to1, ip1, tk1, _, e1, rfl⟩ := h; obtain ⟨fr2, ou2, to2, ip2, tk2, _, e2, rfl⟩ := h2
  rw [e1] at e2
  simp only [List.cons.injEq, A.int.injEq, A.bool.injEq, A.agg.injEq, A.row.injEq, A.fn.injEq, A.rp.injEq, insv_inj, iv_inj, true_and, and_true] at e2
  simp [e2]

theorem ok_toLinkS : Kn.ok Try.prog (kof [(139, q_toLink)]) := kof_cons k_toLink ((kof_nil _))
theorem toLinkS_ac (ks : List LK) (hc1 : ks.length < 2513169434844) (hc2 : KW ks) : AC Try.prog 72 [.row false 5 (ks.map kv)] (.row true 5 (ks.map okv)) := by
  have e_toLink := e_toLink
  have hb1 : (ks.length : Int) ≤ 4611686018427387904 := by omega
  have hb2 : 56 * (ks.length : Int) ≤ 140737488355328 := by omega
  refine AC.of tab_ok Try.func72 rfl (Nat.le_of_ble_eq_true rfl) fun w0 S0 => ?_
  change G _ _ ⟨[(0, .row false 5 (ks.map kv))], [], 23⟩
  apply G.seq
  refine G.rg tab_ok ok_toLinkS (hk := ?_)
  apply G.seq
  refine G.rg tab_ok ok_toLinkS (hk := ?_)
  apply G.seq
  apply G.seq
  refine G.rg tab_ok ok_toLinkS (hk := ?_)
  apply G.block
  refine G.cn [0, 3, 4] [0] (h := ?_)
  refine G.loopX (fun j : Nat => ⟨[(0, .row false 5 (ks.map kv)), (3, .sl 0 0 ks.length), (4, .int .i64 j)], [some (5, fillB okv ks [.int .i64 0, .int .i64 0, .int .i64 0, .int .i64 0, .nils] j)], 23⟩) (fun j => j ≤ ks.length) (fun j => ks.length - j) (0) (Nat.zero_le _) (by simp [fillB]) ?_
  intro j hj J hJ
  have hw : IntKind.i64.wrap ((j : Int) + 1) = (j : Int) + 1 := wrap64 (by omega) (by omega)
  have hlen := fillB_len okv [.int .i64 0, .int .i64 0, .int .i64 0, .int .i64 0, .nils] hj
  apply G.seq
  apply G.seq
  refine G.rg tab_ok ok_toLinkS (hk := ?_)
  refine G.iff (h1 := fun h1 => ?_) (h2 := fun h1 => ?_)
  · try simp only [decide_eq_true_eq, decide_eq_false_iff_not, Bool.and_eq_true, Bool.and_eq_false_imp, Bool.or_eq_true, Bool.or_eq_false_iff, Bool.not_eq_true', Bool.not_eq_false', bne_iff_ne, beq_iff_eq, bne_eq_false_iff_eq, beq_eq_false_iff_ne, ne_eq, Int.ofNat_lt, Int.not_lt, Int.not_le, Int.ofNat_le, Nat.not_lt, Nat.not_le, gt_iff_lt, ge_iff_le] at h1
    apply G.skip
    apply G.seq
    apply G.block
    have hg := fillB_get okv [.int .i64 0, .int .i64 0, .int .i64 0, .int .i64 0, .nils] h1
    have hlr : (ks.getD j default).tk.length < 17592186044416 := hc2 _ (getD_mem0 h1)
    refine G.rg tab_ok ok_toLinkS (hk := ?_)
    refine G.unfocusFE 0 j 4 1 (f := okv) (l := ks) rfl h1 rfl rfl (by decide) (by simp) (by first | exact pureLL_insv _ | exact pureLL_iv _) rfl ?_
    apply G.blk
    refine G.rg tab_ok ok_toLinkS (hk := ?_)
    have hp := fillB_pure okv [.int .i64 0, .int .i64 0, .int .i64 0, .int .i64 0, .nils] (l := ks) (i := j + 1) (fun x => by simp [okv, pureL, pureA, pureLL_insv, pureLL_iv]) rfl
    refine G.cn [0, 3, 4] [0] (h := ?_)
    exact G.upto (hJ (j + 1) (by omega) (by omega)) (by simp)
  · try simp only [decide_eq_true_eq, decide_eq_false_iff_not, Bool.and_eq_true, Bool.and_eq_false_imp, Bool.or_eq_true, Bool.or_eq_false_iff, Bool.not_eq_true', Bool.not_eq_false', bne_iff_ne, beq_iff_eq, bne_eq_false_iff_eq, beq_eq_false_iff_ne, ne_eq, Int.ofNat_lt, Int.not_lt, Int.not_le, Int.ofNat_le, Nat.not_lt, Nat.not_le, gt_iff_lt, ge_iff_le] at h1
    refine G.exit rfl ?_
    apply G.seq
    refine G.rg tab_ok ok_toLinkS (hk := ?_)
    obtain rfl : j = ks.length := by omega
    rw [fillB_full]
    refine G.fin tab_ok (hr := ?_)
    rfl
def r_toLinkS (xs0 : List A) (rr : A) : Prop := ∃ (ks : List LK), (ks.length < 2513169434844) ∧ (KW ks) ∧ xs0 = [.row false 5 (ks.map kv)] ∧ rr = .row true 5 (ks.map okv)
noncomputable def q_toLinkS : List A → Option A := kgr r_toLinkS
theorem k_toLinkS : KOk Try.prog (72, q_toLinkS) := kgr_ok (enters_of Try.func72 rfl rfl) (by rintro xs0 rr ⟨ks, hc1, hc2, rfl, rfl⟩; exact toLinkS_ac ks hc1 hc2)
theorem e_toLinkS : ∀ (ks : List LK), (ks.length < 2513169434844) → (KW ks) → q_toLinkS [.row false 5 (ks.map kv)] = some (.row true 5 (ks.map okv)) := by
  intro ks hc1 hc2
  refine kgr_eq (fun xs0 rr r2 h h2 => ?_) ⟨ks, hc1, hc2, rfl, rfl⟩
  obtain ⟨ks1, _, _, e1, rfl⟩ := h; obtain ⟨ks2, _, _, e2, rfl⟩ := h2
  rw [e1] at e2
  simp only [List.cons.injEq, A.int.injEq, A.bool.injEq, A.agg.injEq, A.row.injEq, A.fn.injEq, A.rp.injEq, insv_inj, iv_inj, pv_inj, kv_inj, av_inj, true_and, and_true] at e2
  simp [e2]

theorem ok_toNetwork : Kn.ok Try.prog (kof [(71, q_toProgramS), (72, q_toLinkS)]) := kof_cons k_toProgramS (kof_cons k_toLinkS ((kof_nil _)))
theorem toNetwork_ac (ps : List PG) (ks : List LK) (hc1 : NW ps) (hc2 : KW ks) (hc3 : ps.length < 3518437208781) (hc4 : ks.length < 2513169434844) : AC Try.prog 18 [.agg [.row false 3 (ps.map pv), .row false 5 (ks.map kv)]] (.agg [.row true 3 (ps.map opv), .row true 5 (ks.map okv)]) := by
  have e_toProgramS := e_toProgramS
  have e_toLinkS := e_toLinkS
  refine AC.of tab_ok Try.func18 rfl (Nat.le_of_ble_eq_true rfl) fun w0 S0 => ?_
  change G _ _ ⟨[(0, .agg [.row false 3 (ps.map pv), .row false 5 (ks.map kv)])], [], 13⟩
  apply G.seq
  refine G.rg tab_ok ok_toNetwork (hk := ?_)
  apply G.seq
  refine G.rg tab_ok ok_toNetwork (hk := ?_)
  apply G.seq
  refine G.rg tab_ok ok_toNetwork (hk := ?_)
  apply G.seq
  refine G.rg tab_ok ok_toNetwork (hk := ?_)
  apply G.seq
  refine G.rg tab_ok ok_toNetwork (hk := ?_)
  refine G.fin tab_ok (hr := ?_)
  rfl
def r_toNetwork (xs0 : List A) (rr : A) : Prop := ∃ (ps : List PG) (ks : List LK), (NW ps) ∧ (KW ks) ∧ (ps.length < 3518437208781) ∧ (ks.length < 2513169434844) ∧ xs0 = [.agg [.row false 3 (ps.map pv), .row false 5 (ks.map kv)]] ∧ rr = .agg [.row true 3 (ps.map opv), .row true 5 (ks.map okv)]
noncomputable def q_toNetwork : List A → Option A := kgr r_toNetwork
theorem k_toNetwork : KOk Try.prog (18, q_toNetwork) := kgr_ok (enters_of Try.func18 rfl rfl) (by rintro xs0 rr ⟨ps, ks, hc1, hc2, hc3, hc4, rfl, rfl⟩; exact toNetwork_ac ps ks hc1 hc2 hc3 hc4)
theorem e_toNetwork : ∀ (ps : List PG) (ks : List LK), (NW ps) → (KW ks) → (ps.length < 3518437208781) → (ks.length < 2513169434844) → q_toNetwork [.agg [.row false 3 (ps.map pv), .row false 5 (ks.map kv)]] = some (.agg [.row true 3 (ps.map opv), .row true 5 (ks.map okv)]) := by
  intro ps ks hc1 hc2 hc3 hc4
  refine kgr_eq (fun xs0 rr r2 h h2 => ?_) ⟨ps, ks, hc1, hc2, hc3, hc4, rfl, rfl⟩
  obtain ⟨ps1, ks1, _, _, _, _, e1, rfl⟩ := h; obtain ⟨ps2, ks2, _, _, _, _, e2, rfl⟩ := h2
  rw [e1] at e2
  simp only [List.cons.injEq, A.int.injEq, A.bool.injEq, A.agg.injEq, A.row.injEq, pv_inj, kv_inj, true_and, and_true] at e2
  obtain ⟨e3, e4⟩ := e2
  subst e3 e4
  rfl

end Go.Proofs.Yticgaflgbljhlaa.Ab
