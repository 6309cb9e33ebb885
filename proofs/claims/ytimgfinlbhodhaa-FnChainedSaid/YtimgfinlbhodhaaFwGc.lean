/- Walks of functions of the program: what each answers, for all arguments that meet its conditions; and the plain definitions that tell it. -/
import Derived.Test.YtimgfinlbhodhaaFwGb
import Derived.Test.YtimgfinlbhodhaaFwGa
namespace Go.Proofs.Ytimgfinlbhodhaa.Ab
open Go
set_option linter.unusedVariables false
set_option linter.unusedSimpArgs false
set_option maxHeartbeats 4000000
def strOk (xs : List Int) : Bool := xs.all tok && decide ((xs.length : Int) ≤ 400)
def actOk (pc n : Int) (rs : List Int) : Bool := inR pc 0 n && ((rs.length : Int) == 4) && strOk rs
section
variable {α : Type}
def gidx (p : α → Bool) (l : List α) : Int := match l.findIdx? p with
  | some i => i
  | none => -1
theorem gidx_pos (p : α → Bool) (l : List α) : decide (gidx (fun x => !(p x)) l ≥ 0) = !(l.all p) := by
  rw [Bool.eq_iff_iff]
  unfold gidx
  cases h : l.findIdx? (fun x => !(p x)) with
  | none =>
    rw [List.findIdx?_eq_none_iff] at h
    have : l.all p = true := by rw [List.all_eq_true]; intro x hx; simpa using h x hx
    simp [this]
  | some j =>
    rw [List.findIdx?_eq_some_iff_getElem] at h
    obtain ⟨h1, h2, _⟩ := h
    have : l.all p = false := by rw [List.all_eq_false]; exact ⟨l[j], List.getElem_mem h1, by simpa using h2⟩
    simp [this]
variable [Inhabited α]
theorem gidx_some {p : α → Bool} {l : List α} {j : Nat} (hj : j < l.length) (hall : ∀ k < j, p (l.getD k default) = false) (h : p (l.getD j default) = true) : gidx p l = j := by
  have : l.findIdx? p = some j := by
    rw [List.findIdx?_eq_some_iff_getElem]
    refine ⟨hj, by simpa [hj] using h, fun k hk => ?_⟩
    have hk2 : k < l.length := by omega
    simpa [hk2] using hall k hk
  unfold gidx
  rw [this]
theorem gidx_none {p : α → Bool} {l : List α} (hall : ∀ k < l.length, p (l.getD k default) = false) : gidx p l = -1 := by
  have : l.findIdx? p = none := by
    rw [List.findIdx?_eq_none_iff]
    intro x hx
    obtain ⟨k, hk, rfl⟩ := List.getElem_of_mem hx
    simpa [hk] using hall k hk
  unfold gidx
  rw [this]
theorem gupto {l : List α} {p : α → Bool} {b : Bool} {i : Nat} (h : ∀ j < i, p (l.getD j default) = b) (h2 : p (l.getD i default) = b) : ∀ j < i + 1, p (l.getD j default) = b := by
  intro j hj
  by_cases e : j = i
  · rw [e]; exact h2
  · exact h j (by omega)
theorem gall {l : List α} {p : α → Bool} (h : ∀ j < l.length, p (l.getD j default) = true) : l.all p = true := by
  rw [List.all_eq_true]
  intro x hx
  obtain ⟨j, hj, rfl⟩ := List.getElem_of_mem hx
  simpa [hj] using h j hj
theorem gnot {l : List α} {p : α → Bool} {j : Nat} (hj : j < l.length) (h : p (l.getD j default) = false) : l.all p = false := by
  rw [List.all_eq_false]
  refine ⟨l[j], List.getElem_mem hj, ?_⟩
  simpa [hj] using h
theorem geq_upto {l m : List α} {i : Nat} (h : ∀ j < i, l.getD j default = m.getD j default) (h2 : l.getD i default = m.getD i default) : ∀ j < i + 1, l.getD j default = m.getD j default := by
  intro j hj
  by_cases e : j = i
  · rw [e]; exact h2
  · exact h j (by omega)
theorem geq_all {l m : List α} (hl : l.length = m.length) (h : ∀ j < l.length, l.getD j default = m.getD j default) : l = m := by
  apply List.ext_getElem hl
  intro j h1 h2
  have := h j h1
  simpa [h1, h2] using this
end
theorem ok_specIsStream : Kn.ok Try.prog (kof [(148, q_l1Token)]) := kof_cons k_l1Token ((kof_nil _))
theorem specIsStream_ac (rs : List Int) (hc1 : rs.length < 17592186044416) : AC Try.prog 75 [.row false 1 (rs.map iv)] (.bool (strOk rs)) := by
  have e_l1Token := e_l1Token
  refine AC.of tab_ok Try.func75 rfl (Nat.le_of_ble_eq_true rfl) fun w0 S0 => ?_
  change G _ _ ⟨[(0, .row false 1 (rs.map iv))], [], 18⟩
  apply G.seq
  refine G.rg tab_ok ok_specIsStream (hk := ?_)
  apply G.seq
  apply G.seq
  refine G.rg tab_ok ok_specIsStream (hk := ?_)
  apply G.block
  refine G.cn [0, 5, 6, 7] [] (h := ?_)
  refine G.loopX (fun j : Nat => ⟨[(0, .row false 1 (rs.map iv)), (5, .row false 1 (rs.map iv)), (6, .int .i64 rs.length), (7, .int .i64 j)], [], 18⟩) (fun j => j ≤ rs.length ∧ ∀ k < j, tok (rs.getD k default) = true) (fun j => rs.length - j) (0) (⟨Nat.zero_le _, by omega⟩) (rfl) ?_
  intro j hj J hJ
  obtain ⟨hj, hall⟩ := hj
  have hw : IntKind.i64.wrap ((j : Int) + 1) = (j : Int) + 1 := wrap64 (by omega) (by omega)
  apply G.seq
  refine G.rg tab_ok ok_specIsStream (hk := ?_)
  apply G.seq
  refine G.iff (h1 := fun h1 => ?_) (h2 := fun h1 => ?_)
  · try simp only [zz, bne_iff_ne, beq_iff_eq, bne_eq_false_iff_eq, beq_eq_false_iff_ne, ne_eq, gt_iff_lt, ge_iff_le] at h1
    apply G.skip
    apply G.seq
    apply G.block
    apply G.seq
    refine G.rg tab_ok ok_specIsStream (hk := ?_)
    apply G.seq
    refine G.rg tab_ok ok_specIsStream (hk := ?_)
    refine G.iff (h1 := fun h2 => ?_) (h2 := fun h2 => ?_)
    · try simp only [zz, bne_iff_ne, beq_iff_eq, bne_eq_false_iff_eq, beq_eq_false_iff_ne, ne_eq, gt_iff_lt, ge_iff_le] at h2
      apply G.seq
      refine G.rg tab_ok ok_specIsStream (hk := ?_)
      refine G.fin tab_ok (hr := ?_)
      simp only [oneOrTup]
      congr 1
      symm
      unfold strOk
      rw [gnot h1 h2]
      rfl
    · try simp only [zz, bne_iff_ne, beq_iff_eq, bne_eq_false_iff_eq, beq_eq_false_iff_ne, ne_eq, gt_iff_lt, ge_iff_le] at h2
      apply G.skip
      apply G.blk
      refine G.rg tab_ok ok_specIsStream (hk := ?_)
      refine G.cn [0, 5, 6, 7] [] (h := ?_)
      exact G.upto (hJ (j + 1) ⟨by omega, gupto (p := tok) hall h2⟩ (by omega)) (by simp)
  · try simp only [zz, bne_iff_ne, beq_iff_eq, bne_eq_false_iff_eq, beq_eq_false_iff_ne, ne_eq, gt_iff_lt, ge_iff_le] at h1
    refine G.exit rfl ?_
    apply G.seq
    refine G.rg tab_ok ok_specIsStream (hk := ?_)
    refine G.fin tab_ok (hr := ?_)
    simp only [oneOrTup]
    congr 1
    unfold strOk
    rw [gall (p := tok) (fun k hk => hall k (by omega)), Bool.true_and]
def r_specIsStream (xs0 : List A) (rr : A) : Prop := ∃ (rs : List Int), (rs.length < 17592186044416) ∧ xs0 = [.row false 1 (rs.map iv)] ∧ rr = .bool (strOk rs)
noncomputable def q_specIsStream : List A → Option A := kgr r_specIsStream
theorem k_specIsStream : KOk Try.prog (75, q_specIsStream) := kgr_ok (enters_of Try.func75 rfl rfl) (by rintro xs0 rr ⟨rs, hc1, rfl, rfl⟩; exact specIsStream_ac rs hc1)
theorem e_specIsStream : ∀ (rs : List Int), (rs.length < 17592186044416) → q_specIsStream [.row false 1 (rs.map iv)] = some (.bool (strOk rs)) := by
  intro rs hc1
  refine kgr_eq (fun xs0 rr r2 h h2 => ?_) ⟨rs, hc1, rfl, rfl⟩
  obtain ⟨rs1, _, e1, rfl⟩ := h; obtain ⟨rs2, _, e2, rfl⟩ := h2
  rw [e1] at e2
  simp only [List.cons.injEq, A.int.injEq, A.bool.injEq, A.agg.injEq, A.row.injEq, A.fn.injEq, A.rp.injEq, insv_inj, iv_inj, true_and, and_true] at e2
  simp [e2]
theorem ok_isStream1 : Kn.ok Try.prog (kof [(101, q_isToken)]) := kof_cons k_isToken ((kof_nil _))
theorem isStream1_ac (x : Int)  : AC Try.prog 163 [.int .i64 x] (.bool (!(tok x))) := by
  have e_isToken := e_isToken
  refine AC.of tab_ok Try.func163 rfl (Nat.le_of_ble_eq_true rfl) fun w0 S0 => ?_
  change G _ _ ⟨[(0, .int .i64 x)], [], 6⟩
  apply G.seq
  refine G.rg tab_ok ok_isStream1 (hk := ?_)
  apply G.seq
  refine G.rg tab_ok ok_isStream1 (hk := ?_)
  refine G.fin tab_ok (hr := ?_)
  rfl
def r_isStream1 (xs0 : List A) (rr : A) : Prop := ∃ (x : Int), xs0 = [.int .i64 x] ∧ rr = .bool (!(tok x))
noncomputable def q_isStream1 : List A → Option A := kgr r_isStream1
theorem k_isStream1 : KOk Try.prog (163, q_isStream1) := kgr_ok (enters_of Try.func163 rfl rfl) (by rintro xs0 rr ⟨x, rfl, rfl⟩; exact isStream1_ac x)
theorem e_isStream1 : ∀ (x : Int), q_isStream1 [.int .i64 x] = some (.bool (!(tok x))) := by
  intro x
  refine kgr_eq (fun xs0 rr r2 h h2 => ?_) ⟨x, rfl, rfl⟩
  obtain ⟨x1, e1, rfl⟩ := h; obtain ⟨x2, e2, rfl⟩ := h2
  rw [e1] at e2
  simp only [List.cons.injEq, A.int.injEq, A.bool.injEq, A.agg.injEq, A.row.injEq, A.fn.injEq, A.rp.injEq, insv_inj, iv_inj, true_and, and_true] at e2
  simp [e2]
theorem ok_indexTok : Kn.ok Try.prog (kof [(163, q_isStream1)]) := kof_cons k_isStream1 ((kof_nil _))
theorem indexTok_ac (rs : List Int) (hc1 : rs.length < 17592186044416) : AC Try.prog 187 [.row false 1 (rs.map iv), .fn 163 []] (.int .i64 (gidx (fun x => !(tok x)) rs)) := by
  have e_isStream1 := e_isStream1
  refine AC.of tab_ok Try.func187 rfl (Nat.le_of_ble_eq_true rfl) fun w0 S0 => ?_
  change G _ _ ⟨[(0, .row false 1 (rs.map iv)), (1, .fn 163 [])], [], 19⟩
  apply G.seq
  refine G.rg tab_ok ok_indexTok (hk := ?_)
  apply G.seq
  apply G.seq
  refine G.rg tab_ok ok_indexTok (hk := ?_)
  apply G.block
  refine G.cn [0, 1, 7, 8] [] (h := ?_)
  refine G.loopX (fun j : Nat => ⟨[(0, .row false 1 (rs.map iv)), (1, .fn 163 []), (7, .int .i64 rs.length), (8, .int .i64 j)], [], 19⟩) (fun j => j ≤ rs.length ∧ ∀ k < j, (fun x => !(tok x)) (rs.getD k default) = false) (fun j => rs.length - j) (0) (⟨Nat.zero_le _, by omega⟩) (rfl) ?_
  intro j hj J hJ
  obtain ⟨hj, hall⟩ := hj
  have hw : IntKind.i64.wrap ((j : Int) + 1) = (j : Int) + 1 := wrap64 (by omega) (by omega)
  apply G.seq
  refine G.rg tab_ok ok_indexTok (hk := ?_)
  apply G.seq
  refine G.iff (h1 := fun h1 => ?_) (h2 := fun h1 => ?_)
  · try simp only [zz, bne_iff_ne, beq_iff_eq, bne_eq_false_iff_eq, beq_eq_false_iff_ne, ne_eq, gt_iff_lt, ge_iff_le] at h1
    apply G.skip
    apply G.seq
    apply G.block
    apply G.seq
    refine G.rg tab_ok ok_indexTok (hk := ?_)
    apply G.seq
    refine G.rg tab_ok ok_indexTok (hk := ?_)
    refine G.fg [0, 1, 5, 7, 8, 16] (hk := ?_)
    refine G.iff (h1 := fun h2 => ?_) (h2 := fun h2 => ?_)
    · try simp only [zz, bne_iff_ne, beq_iff_eq, bne_eq_false_iff_eq, beq_eq_false_iff_ne, ne_eq, gt_iff_lt, ge_iff_le] at h2
      apply G.seq
      refine G.rg tab_ok ok_indexTok (hk := ?_)
      refine G.fin tab_ok (hr := ?_)
      simp only [oneOrTup]
      congr 1
      exact (gidx_some (p := fun x => !(tok x)) h1 hall (by simp only [Bool.not_eq_true']; exact h2)).symm
    · try simp only [zz, bne_iff_ne, beq_iff_eq, bne_eq_false_iff_eq, beq_eq_false_iff_ne, ne_eq, gt_iff_lt, ge_iff_le] at h2
      apply G.skip
      apply G.blk
      refine G.rg tab_ok ok_indexTok (hk := ?_)
      refine G.cn [0, 1, 7, 8] [] (h := ?_)
      exact G.upto (hJ (j + 1) ⟨by omega, gupto (p := fun x => !(tok x)) hall (by simp only [Bool.not_eq_false']; exact h2)⟩ (by omega)) (by simp)
  · try simp only [zz, bne_iff_ne, beq_iff_eq, bne_eq_false_iff_eq, beq_eq_false_iff_ne, ne_eq, gt_iff_lt, ge_iff_le] at h1
    refine G.exit rfl ?_
    apply G.seq
    refine G.rg tab_ok ok_indexTok (hk := ?_)
    refine G.fin tab_ok (hr := ?_)
    simp only [oneOrTup]
    congr 1
    exact (gidx_none (fun k hk => hall k (by omega))).symm
def r_indexTok (xs0 : List A) (rr : A) : Prop := ∃ (rs : List Int), (rs.length < 17592186044416) ∧ xs0 = [.row false 1 (rs.map iv), .fn 163 []] ∧ rr = .int .i64 (gidx (fun x => !(tok x)) rs)
noncomputable def q_indexTok : List A → Option A := kgr r_indexTok
theorem k_indexTok : KOk Try.prog (187, q_indexTok) := kgr_ok (enters_of Try.func187 rfl rfl) (by rintro xs0 rr ⟨rs, hc1, rfl, rfl⟩; exact indexTok_ac rs hc1)
theorem e_indexTok : ∀ (rs : List Int), (rs.length < 17592186044416) → q_indexTok [.row false 1 (rs.map iv), .fn 163 []] = some (.int .i64 (gidx (fun x => !(tok x)) rs)) := by
  intro rs hc1
  refine kgr_eq (fun xs0 rr r2 h h2 => ?_) ⟨rs, hc1, rfl, rfl⟩
  obtain ⟨rs1, _, e1, rfl⟩ := h; obtain ⟨rs2, _, e2, rfl⟩ := h2
  rw [e1] at e2
  simp only [List.cons.injEq, A.int.injEq, A.bool.injEq, A.agg.injEq, A.row.injEq, A.fn.injEq, A.rp.injEq, insv_inj, iv_inj, true_and, and_true] at e2
  simp [e2]
theorem ok_containsTok : Kn.ok Try.prog (kof [(187, q_indexTok)]) := kof_cons k_indexTok ((kof_nil _))
theorem containsTok_ac (rs : List Int) (hc1 : rs.length < 17592186044416) : AC Try.prog 162 [.row false 1 (rs.map iv), .fn 163 []] (.bool (!(rs.all tok))) := by
  have e_indexTok := e_indexTok
  refine AC.of tab_ok Try.func162 rfl (Nat.le_of_ble_eq_true rfl) fun w0 S0 => ?_
  change G _ _ ⟨[(0, .row false 1 (rs.map iv)), (1, .fn 163 [])], [], 9⟩
  apply G.seq
  refine G.rg tab_ok ok_containsTok (hk := ?_)
  apply G.seq
  refine G.rg tab_ok ok_containsTok (hk := ?_)
  refine G.fin tab_ok (hr := ?_)
  simp only [oneOrTup]
  congr 1
  exact gidx_pos _ _
def r_containsTok (xs0 : List A) (rr : A) : Prop := ∃ (rs : List Int), (rs.length < 17592186044416) ∧ xs0 = [.row false 1 (rs.map iv), .fn 163 []] ∧ rr = .bool (!(rs.all tok))
noncomputable def q_containsTok : List A → Option A := kgr r_containsTok
theorem k_containsTok : KOk Try.prog (162, q_containsTok) := kgr_ok (enters_of Try.func162 rfl rfl) (by rintro xs0 rr ⟨rs, hc1, rfl, rfl⟩; exact containsTok_ac rs hc1)
theorem e_containsTok : ∀ (rs : List Int), (rs.length < 17592186044416) → q_containsTok [.row false 1 (rs.map iv), .fn 163 []] = some (.bool (!(rs.all tok))) := by
  intro rs hc1
  refine kgr_eq (fun xs0 rr r2 h h2 => ?_) ⟨rs, hc1, rfl, rfl⟩
  obtain ⟨rs1, _, e1, rfl⟩ := h; obtain ⟨rs2, _, e2, rfl⟩ := h2
  rw [e1] at e2
  simp only [List.cons.injEq, A.int.injEq, A.bool.injEq, A.agg.injEq, A.row.injEq, A.fn.injEq, A.rp.injEq, insv_inj, iv_inj, true_and, and_true] at e2
  simp [e2]
theorem ok_implIsStream : Kn.ok Try.prog (kof [(162, q_containsTok)]) := kof_cons k_containsTok ((kof_nil _))
theorem implIsStream_ac (rs : List Int) (hc1 : rs.length < 17592186044416) : AC Try.prog 97 [.row false 1 (rs.map iv)] (.bool (strOk rs)) := by
  have e_containsTok := e_containsTok
  refine AC.of tab_ok Try.func97 rfl (Nat.le_of_ble_eq_true rfl) fun w0 S0 => ?_
  change G _ _ ⟨[(0, .row false 1 (rs.map iv))], [], 11⟩
  apply G.seq
  refine G.rg tab_ok ok_implIsStream (hk := ?_)
  apply G.seq
  refine G.rg tab_ok ok_implIsStream (hk := ?_)
  refine G.fin tab_ok (hr := ?_)
  simp only [oneOrTup]
  congr 1
  unfold strOk
  rw [Bool.not_not, Bool.and_comm]
def r_implIsStream (xs0 : List A) (rr : A) : Prop := ∃ (rs : List Int), (rs.length < 17592186044416) ∧ xs0 = [.row false 1 (rs.map iv)] ∧ rr = .bool (strOk rs)
noncomputable def q_implIsStream : List A → Option A := kgr r_implIsStream
theorem k_implIsStream : KOk Try.prog (97, q_implIsStream) := kgr_ok (enters_of Try.func97 rfl rfl) (by rintro xs0 rr ⟨rs, hc1, rfl, rfl⟩; exact implIsStream_ac rs hc1)
theorem e_implIsStream : ∀ (rs : List Int), (rs.length < 17592186044416) → q_implIsStream [.row false 1 (rs.map iv)] = some (.bool (strOk rs)) := by
  intro rs hc1
  refine kgr_eq (fun xs0 rr r2 h h2 => ?_) ⟨rs, hc1, rfl, rfl⟩
  obtain ⟨rs1, _, e1, rfl⟩ := h; obtain ⟨rs2, _, e2, rfl⟩ := h2
  rw [e1] at e2
  simp only [List.cons.injEq, A.int.injEq, A.bool.injEq, A.agg.injEq, A.row.injEq, A.fn.injEq, A.rp.injEq, insv_inj, iv_inj, true_and, and_true] at e2
  simp [e2]
end Go.Proofs.Ytimgfinlbhodhaa.Ab

namespace Go.Proofs.Ytimgfinlbhodhaa.Ab
open Go
set_option linter.unusedVariables false
set_option linter.unusedSimpArgs false
set_option maxHeartbeats 4000000
def wantK (l : List I4) (pc : Int) : Int × Int := if pc = l.length then (0, 0) else if (l.getD pc.toNat default).1 = 11 then (0, 0) else if (l.getD pc.toNat default).1 = 1 then (2, (l.getD pc.toNat default).2.2.1) else if (l.getD pc.toNat default).1 = 2 then (3, (l.getD pc.toNat default).2.2.1) else (1, 0)
theorem act_pc {pc n : Int} {rs : List Int} (h : actOk pc n rs = true) : 0 ≤ pc ∧ pc ≤ n := by
  simp only [actOk, inR, Bool.and_eq_true, decide_eq_true_eq] at h
  omega
theorem implWant_ac (i : Int) (o : Int) (l : List I4) (pc : Int) (rs : List Int) (hc1 : 0 ≤ pc) (hc2 : pc ≤ l.length) : AC Try.prog 100 [.agg [.int .i64 i, .int .i64 o, .row false 4 (l.map insv)], .agg [.int .i64 pc, .row false 1 (rs.map iv)]] (.tup [.int .i64 (wantK l pc).1, .int .i64 (wantK l pc).2]) := by
  refine AC.of tab_ok Try.func100 rfl (Nat.le_of_ble_eq_true rfl) fun w0 S0 => ?_
  change G _ _ ⟨[(0, .agg [.int .i64 i, .int .i64 o, .row false 4 (l.map insv)]), (1, .agg [.int .i64 pc, .row false 1 (rs.map iv)])], [], 31⟩
  apply G.seq
  refine G.rg tab_ok (kof_nil _) (hk := ?_)
  apply G.seq
  apply G.seq
  refine G.rg tab_ok (kof_nil _) (hk := ?_)
  refine G.fg [2, 3, 12, 25, 26, 29, 30] (hk := ?_)
  refine G.iff (h1 := fun h1 => ?_) (h2 := fun h1 => ?_)
  · try simp only [zz, bne_iff_ne, beq_iff_eq, bne_eq_false_iff_eq, beq_eq_false_iff_ne, ne_eq, gt_iff_lt, ge_iff_le] at h1
    apply G.seq
    refine G.rg tab_ok (kof_nil _) (hk := ?_)
    refine G.fin tab_ok (hr := ?_)
    simp only [oneOrTup, wantK, if_true, if_false, eq_self, Int.reduceEq, *]
  · try simp only [zz, bne_iff_ne, beq_iff_eq, bne_eq_false_iff_eq, beq_eq_false_iff_ne, ne_eq, gt_iff_lt, ge_iff_le] at h1
    apply G.skip
    apply G.seq
    apply G.seq
    have hp1 : pc < l.length := by omega
    have hp2 : pc.toNat < l.length := by omega
    refine G.rg tab_ok (kof_nil _) (hk := ?_)
    apply G.seq
    refine G.rg tab_ok (kof_nil _) (hk := ?_)
    apply G.block
    apply G.seq
    refine G.rg tab_ok (kof_nil _) (hk := ?_)
    refine G.fg [6, 20, 21, 25, 26, 29, 30] (hk := ?_)
    refine G.iff (h1 := fun h2 => ?_) (h2 := fun h2 => ?_)
    · try simp only [zz, bne_iff_ne, beq_iff_eq, bne_eq_false_iff_eq, beq_eq_false_iff_ne, ne_eq, gt_iff_lt, ge_iff_le] at h2
      apply G.seq
      refine G.rg tab_ok (kof_nil _) (hk := ?_)
      refine G.fin tab_ok (hr := ?_)
      simp only [oneOrTup, wantK, if_true, if_false, eq_self, Int.reduceEq, *]
    · try simp only [zz, bne_iff_ne, beq_iff_eq, bne_eq_false_iff_eq, beq_eq_false_iff_ne, ne_eq, gt_iff_lt, ge_iff_le] at h2
      apply G.seq
      refine G.rg tab_ok (kof_nil _) (hk := ?_)
      refine G.iff (h1 := fun h3 => ?_) (h2 := fun h3 => ?_)
      · try simp only [zz, bne_iff_ne, beq_iff_eq, bne_eq_false_iff_eq, beq_eq_false_iff_ne, ne_eq, gt_iff_lt, ge_iff_le] at h3
        apply G.seq
        refine G.dr mixed tab_ok (kof_nil _) [0, 1, 2, 3] (hk := ?_)
        refine G.fin tab_ok (hr := ?_)
        simp only [oneOrTup, wantK, if_true, if_false, eq_self, Int.reduceEq, *]
      · try simp only [zz, bne_iff_ne, beq_iff_eq, bne_eq_false_iff_eq, beq_eq_false_iff_ne, ne_eq, gt_iff_lt, ge_iff_le] at h3
        apply G.seq
        refine G.rg tab_ok (kof_nil _) (hk := ?_)
        refine G.iff (h1 := fun h4 => ?_) (h2 := fun h4 => ?_)
        · try simp only [zz, bne_iff_ne, beq_iff_eq, bne_eq_false_iff_eq, beq_eq_false_iff_ne, ne_eq, gt_iff_lt, ge_iff_le] at h4
          apply G.seq
          refine G.dr mixed tab_ok (kof_nil _) [0, 1, 2, 3] (hk := ?_)
          refine G.fin tab_ok (hr := ?_)
          simp only [oneOrTup, wantK, if_true, if_false, eq_self, Int.reduceEq, *]
        · try simp only [zz, bne_iff_ne, beq_iff_eq, bne_eq_false_iff_eq, beq_eq_false_iff_ne, ne_eq, gt_iff_lt, ge_iff_le] at h4
          apply G.skip
          apply G.blk
          apply G.seq
          refine G.rg tab_ok (kof_nil _) (hk := ?_)
          refine G.fin tab_ok (hr := ?_)
          simp only [oneOrTup, wantK, if_true, if_false, eq_self, Int.reduceEq, *]
def r_implWant (xs0 : List A) (rr : A) : Prop := ∃ (i : Int) (o : Int) (l : List I4) (pc : Int) (rs : List Int), (0 ≤ pc) ∧ (pc ≤ l.length) ∧ xs0 = [.agg [.int .i64 i, .int .i64 o, .row false 4 (l.map insv)], .agg [.int .i64 pc, .row false 1 (rs.map iv)]] ∧ rr = .tup [.int .i64 (wantK l pc).1, .int .i64 (wantK l pc).2]
noncomputable def q_implWant : List A → Option A := kgr r_implWant
theorem k_implWant : KOk Try.prog (100, q_implWant) := kgr_ok (enters_of Try.func100 rfl rfl) (by rintro xs0 rr ⟨i, o, l, pc, rs, hc1, hc2, rfl, rfl⟩; exact implWant_ac i o l pc rs hc1 hc2)
theorem e_implWant : ∀ (i : Int) (o : Int) (l : List I4) (pc : Int) (rs : List Int), (0 ≤ pc) → (pc ≤ l.length) → q_implWant [.agg [.int .i64 i, .int .i64 o, .row false 4 (l.map insv)], .agg [.int .i64 pc, .row false 1 (rs.map iv)]] = some (.tup [.int .i64 (wantK l pc).1, .int .i64 (wantK l pc).2]) := by
  intro i o l pc rs hc1 hc2
  refine kgr_eq (fun xs0 rr r2 h h2 => ?_) ⟨i, o, l, pc, rs, hc1, hc2, rfl, rfl⟩
  obtain ⟨i1, o1, l1, pc1, rs1, _, _, e1, rfl⟩ := h; obtain ⟨i2, o2, l2, pc2, rs2, _, _, e2, rfl⟩ := h2
  rw [e1] at e2
  simp only [List.cons.injEq, A.int.injEq, A.bool.injEq, A.agg.injEq, A.row.injEq, A.fn.injEq, A.rp.injEq, insv_inj, iv_inj, true_and, and_true] at e2
  simp [e2]
theorem l2Want_ac (i : Int) (o : Int) (l : List I4) (pc : Int) (rs : List Int) (hc1 : 0 ≤ pc) (hc2 : pc ≤ l.length) : AC Try.prog 151 [.agg [.int .i64 i, .int .i64 o, .row false 4 (l.map insv)], .agg [.int .i64 pc, .row false 1 (rs.map iv)]] (.tup [.int .i64 (wantK l pc).1, .int .i64 (wantK l pc).2]) := by
  refine AC.of tab_ok Try.func151 rfl (Nat.le_of_ble_eq_true rfl) fun w0 S0 => ?_
  change G _ _ ⟨[(0, .agg [.int .i64 i, .int .i64 o, .row false 4 (l.map insv)]), (1, .agg [.int .i64 pc, .row false 1 (rs.map iv)])], [], 31⟩
  apply G.seq
  refine G.rg tab_ok (kof_nil _) (hk := ?_)
  apply G.seq
  apply G.seq
  refine G.rg tab_ok (kof_nil _) (hk := ?_)
  refine G.fg [2, 3, 12, 25, 26, 29, 30] (hk := ?_)
  refine G.iff (h1 := fun h1 => ?_) (h2 := fun h1 => ?_)
  · try simp only [zz, bne_iff_ne, beq_iff_eq, bne_eq_false_iff_eq, beq_eq_false_iff_ne, ne_eq, gt_iff_lt, ge_iff_le] at h1
    apply G.seq
    refine G.rg tab_ok (kof_nil _) (hk := ?_)
    refine G.fin tab_ok (hr := ?_)
    simp only [oneOrTup, wantK, if_true, if_false, eq_self, Int.reduceEq, *]
  · try simp only [zz, bne_iff_ne, beq_iff_eq, bne_eq_false_iff_eq, beq_eq_false_iff_ne, ne_eq, gt_iff_lt, ge_iff_le] at h1
    apply G.skip
    apply G.seq
    have hp1 : pc < l.length := by omega
    have hp2 : pc.toNat < l.length := by omega
    refine G.rg tab_ok (kof_nil _) (hk := ?_)
    apply G.seq
    apply G.seq
    refine G.rg tab_ok (kof_nil _) (hk := ?_)
    apply G.block
    apply G.seq
    refine G.rg tab_ok (kof_nil _) (hk := ?_)
    refine G.fg [6, 20, 21, 25, 26, 29, 30] (hk := ?_)
    refine G.iff (h1 := fun h2 => ?_) (h2 := fun h2 => ?_)
    · try simp only [zz, bne_iff_ne, beq_iff_eq, bne_eq_false_iff_eq, beq_eq_false_iff_ne, ne_eq, gt_iff_lt, ge_iff_le] at h2
      apply G.seq
      refine G.rg tab_ok (kof_nil _) (hk := ?_)
      refine G.fin tab_ok (hr := ?_)
      simp only [oneOrTup, wantK, if_true, if_false, eq_self, Int.reduceEq, *]
    · try simp only [zz, bne_iff_ne, beq_iff_eq, bne_eq_false_iff_eq, beq_eq_false_iff_ne, ne_eq, gt_iff_lt, ge_iff_le] at h2
      apply G.seq
      refine G.rg tab_ok (kof_nil _) (hk := ?_)
      refine G.iff (h1 := fun h3 => ?_) (h2 := fun h3 => ?_)
      · try simp only [zz, bne_iff_ne, beq_iff_eq, bne_eq_false_iff_eq, beq_eq_false_iff_ne, ne_eq, gt_iff_lt, ge_iff_le] at h3
        apply G.seq
        refine G.dr mixed tab_ok (kof_nil _) [0, 1, 2, 3] (hk := ?_)
        refine G.fin tab_ok (hr := ?_)
        simp only [oneOrTup, wantK, if_true, if_false, eq_self, Int.reduceEq, *]
      · try simp only [zz, bne_iff_ne, beq_iff_eq, bne_eq_false_iff_eq, beq_eq_false_iff_ne, ne_eq, gt_iff_lt, ge_iff_le] at h3
        apply G.seq
        refine G.rg tab_ok (kof_nil _) (hk := ?_)
        refine G.iff (h1 := fun h4 => ?_) (h2 := fun h4 => ?_)
        · try simp only [zz, bne_iff_ne, beq_iff_eq, bne_eq_false_iff_eq, beq_eq_false_iff_ne, ne_eq, gt_iff_lt, ge_iff_le] at h4
          apply G.seq
          refine G.dr mixed tab_ok (kof_nil _) [0, 1, 2, 3] (hk := ?_)
          refine G.fin tab_ok (hr := ?_)
          simp only [oneOrTup, wantK, if_true, if_false, eq_self, Int.reduceEq, *]
        · try simp only [zz, bne_iff_ne, beq_iff_eq, bne_eq_false_iff_eq, beq_eq_false_iff_ne, ne_eq, gt_iff_lt, ge_iff_le] at h4
          apply G.skip
          apply G.blk
          apply G.seq
          refine G.rg tab_ok (kof_nil _) (hk := ?_)
          refine G.fin tab_ok (hr := ?_)
          simp only [oneOrTup, wantK, if_true, if_false, eq_self, Int.reduceEq, *]
def r_l2Want (xs0 : List A) (rr : A) : Prop := ∃ (i : Int) (o : Int) (l : List I4) (pc : Int) (rs : List Int), (0 ≤ pc) ∧ (pc ≤ l.length) ∧ xs0 = [.agg [.int .i64 i, .int .i64 o, .row false 4 (l.map insv)], .agg [.int .i64 pc, .row false 1 (rs.map iv)]] ∧ rr = .tup [.int .i64 (wantK l pc).1, .int .i64 (wantK l pc).2]
noncomputable def q_l2Want : List A → Option A := kgr r_l2Want
theorem k_l2Want : KOk Try.prog (151, q_l2Want) := kgr_ok (enters_of Try.func151 rfl rfl) (by rintro xs0 rr ⟨i, o, l, pc, rs, hc1, hc2, rfl, rfl⟩; exact l2Want_ac i o l pc rs hc1 hc2)
theorem e_l2Want : ∀ (i : Int) (o : Int) (l : List I4) (pc : Int) (rs : List Int), (0 ≤ pc) → (pc ≤ l.length) → q_l2Want [.agg [.int .i64 i, .int .i64 o, .row false 4 (l.map insv)], .agg [.int .i64 pc, .row false 1 (rs.map iv)]] = some (.tup [.int .i64 (wantK l pc).1, .int .i64 (wantK l pc).2]) := by
  intro i o l pc rs hc1 hc2
  refine kgr_eq (fun xs0 rr r2 h h2 => ?_) ⟨i, o, l, pc, rs, hc1, hc2, rfl, rfl⟩
  obtain ⟨i1, o1, l1, pc1, rs1, _, _, e1, rfl⟩ := h; obtain ⟨i2, o2, l2, pc2, rs2, _, _, e2, rfl⟩ := h2
  rw [e1] at e2
  simp only [List.cons.injEq, A.int.injEq, A.bool.injEq, A.agg.injEq, A.row.injEq, A.fn.injEq, A.rp.injEq, insv_inj, iv_inj, true_and, and_true] at e2
  simp [e2]
end Go.Proofs.Ytimgfinlbhodhaa.Ab

namespace Go.Proofs.Ytimgfinlbhodhaa.Ab
open Go
set_option linter.unusedVariables false
set_option linter.unusedSimpArgs false
set_option maxHeartbeats 4000000
end Go.Proofs.Ytimgfinlbhodhaa.Ab

namespace Go.Proofs.Ytimgfinlbhodhaa.Ab
open Go
set_option linter.unusedVariables false
set_option linter.unusedSimpArgs false
set_option maxHeartbeats 4000000
end Go.Proofs.Ytimgfinlbhodhaa.Ab

namespace Go.Proofs.Ytimgfinlbhodhaa.Ab
open Go
set_option linter.unusedVariables false
set_option linter.unusedSimpArgs false
set_option maxHeartbeats 4000000
theorem l1Copy_ac (rs : List Int) (hc1 : rs.length ≤ 1048576) : AC Try.prog 154 [.row false 1 (rs.map iv)] (.row true 1 (rs.map iv)) := by
  have hb1 : ((0 + rs.length : Nat) : Int) ≤ 4611686018427387904 := by omega
  have hb2 : (0 + rs.length) * 8 ≤ 70368744177664 := by omega
  have hb3 : (rs.length : Int) ≤ 4611686018427387904 := by omega
  have hb4 : rs.length * 8 ≤ 70368744177664 := by omega
  refine AC.of tab_ok Try.func154 rfl (Nat.le_of_ble_eq_true rfl) fun w0 S0 => ?_
  change G _ _ ⟨[(0, .row false 1 (rs.map iv))], [], 6⟩
  apply G.seq
  refine G.rg tab_ok (kof_nil _) (hk := ?_)
  apply G.seq
  refine G.rg tab_ok (kof_nil _) (hk := ?_)
  refine G.fin tab_ok (hr := ?_)
  rfl
def r_l1Copy (xs0 : List A) (rr : A) : Prop := ∃ (rs : List Int), (rs.length ≤ 1048576) ∧ xs0 = [.row false 1 (rs.map iv)] ∧ rr = .row true 1 (rs.map iv)
noncomputable def q_l1Copy : List A → Option A := kgr r_l1Copy
theorem k_l1Copy : KOk Try.prog (154, q_l1Copy) := kgr_ok (enters_of Try.func154 rfl rfl) (by rintro xs0 rr ⟨rs, hc1, rfl, rfl⟩; exact l1Copy_ac rs hc1)
theorem e_l1Copy : ∀ (rs : List Int), (rs.length ≤ 1048576) → q_l1Copy [.row false 1 (rs.map iv)] = some (.row true 1 (rs.map iv)) := by
  intro rs hc1
  refine kgr_eq (fun xs0 rr r2 h h2 => ?_) ⟨rs, hc1, rfl, rfl⟩
  obtain ⟨rs1, _, e1, rfl⟩ := h; obtain ⟨rs2, _, e2, rfl⟩ := h2
  rw [e1] at e2
  simp only [List.cons.injEq, A.int.injEq, A.bool.injEq, A.agg.injEq, A.row.injEq, A.fn.injEq, A.rp.injEq, insv_inj, iv_inj, true_and, and_true] at e2
  simp [e2]
end Go.Proofs.Ytimgfinlbhodhaa.Ab

namespace Go.Proofs.Ytimgfinlbhodhaa.Ab
open Go
set_option linter.unusedVariables false
set_option linter.unusedSimpArgs false
set_option maxHeartbeats 4000000
def ivL (x : List Int) : List A := [.row false 1 (x.map iv)]
theorem ivL_eq (x : List Int) : ivL x = [.row false 1 (x.map iv)] := rfl
theorem pureLL_ivL (l : List (List Int)) : pureLL (l.map ivL) = true := pureLL_all (fun _ => rfl) l
theorem ivL_inj {l l' : List (List Int)} : l.map ivL = l'.map ivL ↔ l = l' := ⟨map_inj (fun x y h => by simpa [ivL, iv_inj] using h), fun h => by rw [h]⟩
end Go.Proofs.Ytimgfinlbhodhaa.Ab

namespace Go.Proofs.Ytimgfinlbhodhaa.Ab
open Go
set_option linter.unusedVariables false
set_option linter.unusedSimpArgs false
set_option maxHeartbeats 4000000
def sampleP (s : ByteArray) : Int × Int × List I4 := if s.toList = (ByteArray.mk #[116, 104, 114, 111, 117, 103, 104]).toList then (1, 1, [(1, 0, 0, 0), (2, 0, 0, 0), (8, 0, 0, 0)]) else if s.toList = (ByteArray.mk #[99, 111, 112, 121]).toList then (1, 2, [(1, 0, 0, 0), (2, 0, 0, 0), (2, 0, 1, 0), (8, 0, 0, 0)]) else if s.toList = (ByteArray.mk #[115, 105, 110, 107]).toList then (1, 0, [(1, 0, 0, 0), (8, 0, 0, 0)]) else if s.toList = (ByteArray.mk #[97, 100, 100]).toList then (2, 1, [(1, 0, 0, 0), (1, 1, 1, 0), (4, 0, 0, 1), (2, 0, 0, 0), (8, 0, 0, 0)]) else if s.toList = (ByteArray.mk #[97, 108, 116, 101, 114, 110, 97, 116, 101]).toList then (2, 1, [(1, 0, 0, 0), (2, 0, 0, 0), (1, 0, 1, 0), (2, 0, 0, 0), (8, 0, 0, 0)]) else if s.toList = (ByteArray.mk #[115, 112, 108, 105, 116]).toList then (1, 2, [(1, 0, 0, 0), (2, 0, 0, 0), (1, 0, 0, 0), (2, 0, 1, 0), (8, 0, 0, 0)]) else if s.toList = (ByteArray.mk #[115, 117, 109, 115]).toList then (1, 1, [(1, 1, 0, 0), (4, 0, 0, 1), (2, 0, 0, 0), (8, 0, 0, 0)]) else if s.toList = (ByteArray.mk #[115, 116, 101, 112, 115]).toList then (1, 1, [(1, 1, 0, 0), (5, 2, 1, 0), (2, 2, 0, 0), (3, 3, 0, 0), (4, 0, 1, 3), (8, 0, 0, 0)]) else if s.toList = (ByteArray.mk #[116, 119, 105, 99, 101]).toList then (1, 1, [(1, 0, 0, 0), (2, 0, 0, 0), (2, 0, 0, 0), (8, 0, 0, 0)]) else if s.toList = (ByteArray.mk #[99, 111, 117, 110, 116]).toList then (0, 1, [(2, 0, 0, 0), (3, 1, 1, 0), (4, 0, 0, 1), (8, 0, 0, 0)]) else if s.toList = (ByteArray.mk #[112, 105, 99, 107]).toList then (3, 1, [(1, 0, 0, 0), (9, 0, 4, 0), (1, 1, 2, 0), (8, 0, 5, 0), (1, 1, 1, 0), (2, 1, 0, 0), (8, 0, 0, 0)]) else (0, 0, [])
end Go.Proofs.Ytimgfinlbhodhaa.Ab

namespace Go.Proofs.Ytimgfinlbhodhaa.Ab
open Go
set_option linter.unusedVariables false
set_option linter.unusedSimpArgs false
set_option maxHeartbeats 4000000
theorem sampleRead_ac (a : Int) (b : Int)  : AC Try.prog 128 [.int .i64 a, .int .i64 b] (.agg [.int .i64 1, .int .i64 a, .int .i64 b, .int .i64 0]) := by
  refine AC.of tab_ok Try.func128 rfl (Nat.le_of_ble_eq_true rfl) fun w0 S0 => ?_
  change G _ _ ⟨[(0, .int .i64 a), (1, .int .i64 b)], [], 8⟩
  apply G.seq
  refine G.rg tab_ok (kof_nil _) (hk := ?_)
  apply G.seq
  refine G.rg tab_ok (kof_nil _) (hk := ?_)
  refine G.fin tab_ok (hr := ?_)
  rfl
def r_sampleRead (xs0 : List A) (rr : A) : Prop := ∃ (a : Int) (b : Int), xs0 = [.int .i64 a, .int .i64 b] ∧ rr = .agg [.int .i64 1, .int .i64 a, .int .i64 b, .int .i64 0]
noncomputable def q_sampleRead : List A → Option A := kgr r_sampleRead
theorem k_sampleRead : KOk Try.prog (128, q_sampleRead) := kgr_ok (enters_of Try.func128 rfl rfl) (by rintro xs0 rr ⟨a, b, rfl, rfl⟩; exact sampleRead_ac a b)
theorem e_sampleRead : ∀ (a : Int) (b : Int), q_sampleRead [.int .i64 a, .int .i64 b] = some (.agg [.int .i64 1, .int .i64 a, .int .i64 b, .int .i64 0]) := by
  intro a b
  refine kgr_eq (fun xs0 rr r2 h h2 => ?_) ⟨a, b, rfl, rfl⟩
  obtain ⟨a1, b1, e1, rfl⟩ := h; obtain ⟨a2, b2, e2, rfl⟩ := h2
  rw [e1] at e2
  simp only [List.cons.injEq, A.int.injEq, A.bool.injEq, A.agg.injEq, A.row.injEq, A.fn.injEq, A.rp.injEq, insv_inj, iv_inj, true_and, and_true] at e2
  simp [e2]
theorem sampleWrite_ac (a : Int) (b : Int)  : AC Try.prog 129 [.int .i64 a, .int .i64 b] (.agg [.int .i64 2, .int .i64 a, .int .i64 b, .int .i64 0]) := by
  refine AC.of tab_ok Try.func129 rfl (Nat.le_of_ble_eq_true rfl) fun w0 S0 => ?_
  change G _ _ ⟨[(0, .int .i64 a), (1, .int .i64 b)], [], 8⟩
  apply G.seq
  refine G.rg tab_ok (kof_nil _) (hk := ?_)
  apply G.seq
  refine G.rg tab_ok (kof_nil _) (hk := ?_)
  refine G.fin tab_ok (hr := ?_)
  rfl
def r_sampleWrite (xs0 : List A) (rr : A) : Prop := ∃ (a : Int) (b : Int), xs0 = [.int .i64 a, .int .i64 b] ∧ rr = .agg [.int .i64 2, .int .i64 a, .int .i64 b, .int .i64 0]
noncomputable def q_sampleWrite : List A → Option A := kgr r_sampleWrite
theorem k_sampleWrite : KOk Try.prog (129, q_sampleWrite) := kgr_ok (enters_of Try.func129 rfl rfl) (by rintro xs0 rr ⟨a, b, rfl, rfl⟩; exact sampleWrite_ac a b)
theorem e_sampleWrite : ∀ (a : Int) (b : Int), q_sampleWrite [.int .i64 a, .int .i64 b] = some (.agg [.int .i64 2, .int .i64 a, .int .i64 b, .int .i64 0]) := by
  intro a b
  refine kgr_eq (fun xs0 rr r2 h h2 => ?_) ⟨a, b, rfl, rfl⟩
  obtain ⟨a1, b1, e1, rfl⟩ := h; obtain ⟨a2, b2, e2, rfl⟩ := h2
  rw [e1] at e2
  simp only [List.cons.injEq, A.int.injEq, A.bool.injEq, A.agg.injEq, A.row.injEq, A.fn.injEq, A.rp.injEq, insv_inj, iv_inj, true_and, and_true] at e2
  simp [e2]
theorem sampleMade_mc (h : Heap) (i : Int) (o : Int) (l : List I4) (hc1 : h = [some (3, [[.int .i64 0, .int .i64 0, .nils]]), some (4, l.map insv)]) (hc2 : l.length ≤ 24) : MC Try.prog 130 h [.int .i64 i, .int .i64 o, .sl 1 0 l.length] (.agg [.int .i64 i, .int .i64 o, .sl 4 0 (l.length + 1)]) ([some (3, [[.int .i64 0, .int .i64 0, .nils]]), none, some (3, [[.int .i64 i, .int .i64 o, .sl 4 0 (l.length + 1)]]), some (4, [[.int .i64 8, .int .i64 0, .int .i64 0, .int .i64 0]]), some (4, l.map insv ++ [[.int .i64 8, .int .i64 0, .int .i64 0, .int .i64 0]])]) := by
  subst hc1
  have hb3 : ((l.length + 1 : Nat) : Int) ≤ 4611686018427387904 := by omega
  have hb4 : (l.length + 1) * 32 ≤ 70368744177664 := by omega
  refine MC.of tab_ok Try.func130 rfl (Nat.le_of_ble_eq_true rfl) fun w0 S0 fs0 φ0 hφ0 hq0 => ?_
  change G _ _ ⟨[(0, .int .i64 i), (1, .int .i64 o), (2, .sl 1 0 l.length)], _, 14⟩
  apply G.seq
  refine G.rg tab_ok (kof_nil _) (hk := ?_)
  apply G.seq
  refine G.rg tab_ok (kof_nil _) (hk := ?_)
  refine G.finM (junk := []) tab_ok (hr := rfl) (hh := by rw [List.append_nil]) (hp := rfl) (hq := ?_) (hl := ?_)
  · simp only [hrefs, refLL_map, refL, refA, List.all_append, List.all_map]; simp [refL, refA, insv]
  · rw [hφ0]; exact Nat.le_of_ble_eq_true rfl
end Go.Proofs.Ytimgfinlbhodhaa.Ab

namespace Go.Proofs.Ytimgfinlbhodhaa.Ab
open Go
set_option linter.unusedVariables false
set_option linter.unusedSimpArgs false
set_option maxHeartbeats 4000000
theorem ok_implSample : Kn.ok Try.prog (kof [(128, q_sampleRead), (129, q_sampleWrite)]) := kof_cons k_sampleRead (kof_cons k_sampleWrite ((kof_nil _)))
theorem en_sampleMade : Enters Try.prog 130 := enters_of Try.func130 rfl rfl
theorem implSample_ac (s : ByteArray)  : AC Try.prog 53 [.str s] (.agg [.int .i64 (sampleP s).1, .int .i64 (sampleP s).2.1, .row true 4 ((sampleP s).2.2.map insv)]) := by
  have e_sampleRead := e_sampleRead
  have e_sampleWrite := e_sampleWrite
  refine AC.of tab_ok Try.func53 rfl (Nat.le_of_ble_eq_true rfl) fun w0 S0 => ?_
  change G _ _ ⟨[(0, .str s)], [], 130⟩
  apply G.seq
  refine G.rg tab_ok ok_implSample (hk := ?_)
  apply G.seq
  refine G.rg tab_ok ok_implSample (hk := ?_)
  apply G.seq
  refine G.rg tab_ok ok_implSample (hk := ?_)
  apply G.seq
  refine G.rg tab_ok ok_implSample (hk := ?_)
  apply G.seq
  apply G.seq
  refine G.rg tab_ok ok_implSample (hk := ?_)
  apply G.block
  apply G.seq
  refine G.rg tab_ok ok_implSample (hk := ?_)
  refine G.iff (h1 := fun h1 => ?_) (h2 := fun h1 => ?_)
  · try simp only [zz, bne_iff_ne, beq_iff_eq, bne_eq_false_iff_eq, beq_eq_false_iff_ne, ne_eq, gt_iff_lt, ge_iff_le] at h1
    apply G.seq
    refine G.rgN 6 tab_ok ok_implSample (hk := ?_)
    apply G.callM (f := 0) (fid := 130)
    case he => exact en_sampleMade
    case ho => rfl
    case hg => rfl
    case hf => rfl
    case hc => exact sampleMade_mc _ 1 1 [(1, 0, 0, 0), (2, 0, 0, 0)] rfl (by decide)
    case hp => rfl
    refine G.rgC tab_ok ok_implSample (hk := ?_)
    refine G.fin tab_ok (hr := ?_)
    simp only [oneOrTup]
    unfold sampleP
    rw [if_pos h1]
    rfl
  · try simp only [zz, bne_iff_ne, beq_iff_eq, bne_eq_false_iff_eq, beq_eq_false_iff_ne, ne_eq, gt_iff_lt, ge_iff_le] at h1
    apply G.seq
    refine G.rg tab_ok ok_implSample (hk := ?_)
    refine G.fg [2, 3, 4, 5, 6, 16] (hk := ?_)
    refine G.iff (h1 := fun h2 => ?_) (h2 := fun h2 => ?_)
    · try simp only [zz, bne_iff_ne, beq_iff_eq, bne_eq_false_iff_eq, beq_eq_false_iff_ne, ne_eq, gt_iff_lt, ge_iff_le] at h2
      apply G.seq
      refine G.rgN 8 tab_ok ok_implSample (hk := ?_)
      apply G.callM (f := 0) (fid := 130)
      case he => exact en_sampleMade
      case ho => rfl
      case hg => rfl
      case hf => rfl
      case hc => exact sampleMade_mc _ 1 2 [(1, 0, 0, 0), (2, 0, 0, 0), (2, 0, 1, 0)] rfl (by decide)
      case hp => rfl
      refine G.rgC tab_ok ok_implSample (hk := ?_)
      refine G.fin tab_ok (hr := ?_)
      simp only [oneOrTup]
      unfold sampleP
      rw [if_neg h1, if_pos h2]
      rfl
    · try simp only [zz, bne_iff_ne, beq_iff_eq, bne_eq_false_iff_eq, beq_eq_false_iff_ne, ne_eq, gt_iff_lt, ge_iff_le] at h2
      apply G.seq
      refine G.rg tab_ok ok_implSample (hk := ?_)
      refine G.iff (h1 := fun h3 => ?_) (h2 := fun h3 => ?_)
      · try simp only [zz, bne_iff_ne, beq_iff_eq, bne_eq_false_iff_eq, beq_eq_false_iff_ne, ne_eq, gt_iff_lt, ge_iff_le] at h3
        apply G.seq
        refine G.rgN 4 tab_ok ok_implSample (hk := ?_)
        apply G.callM (f := 0) (fid := 130)
        case he => exact en_sampleMade
        case ho => rfl
        case hg => rfl
        case hf => rfl
        case hc => exact sampleMade_mc _ 1 0 [(1, 0, 0, 0)] rfl (by decide)
        case hp => rfl
        refine G.rgC tab_ok ok_implSample (hk := ?_)
        refine G.fin tab_ok (hr := ?_)
        simp only [oneOrTup]
        unfold sampleP
        rw [if_neg h1, if_neg h2, if_pos h3]
        rfl
      · try simp only [zz, bne_iff_ne, beq_iff_eq, bne_eq_false_iff_eq, beq_eq_false_iff_ne, ne_eq, gt_iff_lt, ge_iff_le] at h3
        apply G.seq
        refine G.rg tab_ok ok_implSample (hk := ?_)
        refine G.iff (h1 := fun h4 => ?_) (h2 := fun h4 => ?_)
        · try simp only [zz, bne_iff_ne, beq_iff_eq, bne_eq_false_iff_eq, beq_eq_false_iff_ne, ne_eq, gt_iff_lt, ge_iff_le] at h4
          apply G.seq
          refine G.rgN 9 tab_ok ok_implSample (hk := ?_)
          apply G.callM (f := 0) (fid := 130)
          case he => exact en_sampleMade
          case ho => rfl
          case hg => rfl
          case hf => rfl
          case hc => exact sampleMade_mc _ 2 1 [(1, 0, 0, 0), (1, 1, 1, 0), (4, 0, 0, 1), (2, 0, 0, 0)] rfl (by decide)
          case hp => rfl
          refine G.rgC tab_ok ok_implSample (hk := ?_)
          refine G.fin tab_ok (hr := ?_)
          simp only [oneOrTup]
          unfold sampleP
          rw [if_neg h1, if_neg h2, if_neg h3, if_pos h4]
          rfl
        · try simp only [zz, bne_iff_ne, beq_iff_eq, bne_eq_false_iff_eq, beq_eq_false_iff_ne, ne_eq, gt_iff_lt, ge_iff_le] at h4
          apply G.seq
          refine G.rg tab_ok ok_implSample (hk := ?_)
          refine G.iff (h1 := fun h5 => ?_) (h2 := fun h5 => ?_)
          · try simp only [zz, bne_iff_ne, beq_iff_eq, bne_eq_false_iff_eq, beq_eq_false_iff_ne, ne_eq, gt_iff_lt, ge_iff_le] at h5
            apply G.seq
            refine G.rgN 10 tab_ok ok_implSample (hk := ?_)
            apply G.callM (f := 0) (fid := 130)
            case he => exact en_sampleMade
            case ho => rfl
            case hg => rfl
            case hf => rfl
            case hc => exact sampleMade_mc _ 2 1 [(1, 0, 0, 0), (2, 0, 0, 0), (1, 0, 1, 0), (2, 0, 0, 0)] rfl (by decide)
            case hp => rfl
            refine G.rgC tab_ok ok_implSample (hk := ?_)
            refine G.fin tab_ok (hr := ?_)
            simp only [oneOrTup]
            unfold sampleP
            rw [if_neg h1, if_neg h2, if_neg h3, if_neg h4, if_pos h5]
            rfl
          · try simp only [zz, bne_iff_ne, beq_iff_eq, bne_eq_false_iff_eq, beq_eq_false_iff_ne, ne_eq, gt_iff_lt, ge_iff_le] at h5
            apply G.seq
            refine G.rg tab_ok ok_implSample (hk := ?_)
            refine G.iff (h1 := fun h6 => ?_) (h2 := fun h6 => ?_)
            · try simp only [zz, bne_iff_ne, beq_iff_eq, bne_eq_false_iff_eq, beq_eq_false_iff_ne, ne_eq, gt_iff_lt, ge_iff_le] at h6
              apply G.seq
              refine G.rgN 10 tab_ok ok_implSample (hk := ?_)
              apply G.callM (f := 0) (fid := 130)
              case he => exact en_sampleMade
              case ho => rfl
              case hg => rfl
              case hf => rfl
              case hc => exact sampleMade_mc _ 1 2 [(1, 0, 0, 0), (2, 0, 0, 0), (1, 0, 0, 0), (2, 0, 1, 0)] rfl (by decide)
              case hp => rfl
              refine G.rgC tab_ok ok_implSample (hk := ?_)
              refine G.fin tab_ok (hr := ?_)
              simp only [oneOrTup]
              unfold sampleP
              rw [if_neg h1, if_neg h2, if_neg h3, if_neg h4, if_neg h5, if_pos h6]
              rfl
            · try simp only [zz, bne_iff_ne, beq_iff_eq, bne_eq_false_iff_eq, beq_eq_false_iff_ne, ne_eq, gt_iff_lt, ge_iff_le] at h6
              apply G.seq
              refine G.rg tab_ok ok_implSample (hk := ?_)
              refine G.fg [2, 3, 4, 5, 6, 72] (hk := ?_)
              refine G.iff (h1 := fun h7 => ?_) (h2 := fun h7 => ?_)
              · try simp only [zz, bne_iff_ne, beq_iff_eq, bne_eq_false_iff_eq, beq_eq_false_iff_ne, ne_eq, gt_iff_lt, ge_iff_le] at h7
                apply G.seq
                refine G.rgN 7 tab_ok ok_implSample (hk := ?_)
                apply G.callM (f := 0) (fid := 130)
                case he => exact en_sampleMade
                case ho => rfl
                case hg => rfl
                case hf => rfl
                case hc => exact sampleMade_mc _ 1 1 [(1, 1, 0, 0), (4, 0, 0, 1), (2, 0, 0, 0)] rfl (by decide)
                case hp => rfl
                refine G.rgC tab_ok ok_implSample (hk := ?_)
                refine G.fin tab_ok (hr := ?_)
                simp only [oneOrTup]
                unfold sampleP
                rw [if_neg h1, if_neg h2, if_neg h3, if_neg h4, if_neg h5, if_neg h6, if_pos h7]
                rfl
              · try simp only [zz, bne_iff_ne, beq_iff_eq, bne_eq_false_iff_eq, beq_eq_false_iff_ne, ne_eq, gt_iff_lt, ge_iff_le] at h7
                apply G.seq
                refine G.rg tab_ok ok_implSample (hk := ?_)
                refine G.iff (h1 := fun h8 => ?_) (h2 := fun h8 => ?_)
                · try simp only [zz, bne_iff_ne, beq_iff_eq, bne_eq_false_iff_eq, beq_eq_false_iff_ne, ne_eq, gt_iff_lt, ge_iff_le] at h8
                  apply G.seq
                  refine G.rgN 9 tab_ok ok_implSample (hk := ?_)
                  apply G.callM (f := 0) (fid := 130)
                  case he => exact en_sampleMade
                  case ho => rfl
                  case hg => rfl
                  case hf => rfl
                  case hc => exact sampleMade_mc _ 1 1 [(1, 1, 0, 0), (5, 2, 1, 0), (2, 2, 0, 0), (3, 3, 0, 0), (4, 0, 1, 3)] rfl (by decide)
                  case hp => rfl
                  refine G.rgC tab_ok ok_implSample (hk := ?_)
                  refine G.fin tab_ok (hr := ?_)
                  simp only [oneOrTup]
                  unfold sampleP
                  rw [if_neg h1, if_neg h2, if_neg h3, if_neg h4, if_neg h5, if_neg h6, if_neg h7, if_pos h8]
                  rfl
                · try simp only [zz, bne_iff_ne, beq_iff_eq, bne_eq_false_iff_eq, beq_eq_false_iff_ne, ne_eq, gt_iff_lt, ge_iff_le] at h8
                  apply G.seq
                  refine G.rg tab_ok ok_implSample (hk := ?_)
                  refine G.iff (h1 := fun h9 => ?_) (h2 := fun h9 => ?_)
                  · try simp only [zz, bne_iff_ne, beq_iff_eq, bne_eq_false_iff_eq, beq_eq_false_iff_ne, ne_eq, gt_iff_lt, ge_iff_le] at h9
                    apply G.seq
                    refine G.rgN 8 tab_ok ok_implSample (hk := ?_)
                    apply G.callM (f := 0) (fid := 130)
                    case he => exact en_sampleMade
                    case ho => rfl
                    case hg => rfl
                    case hf => rfl
                    case hc => exact sampleMade_mc _ 1 1 [(1, 0, 0, 0), (2, 0, 0, 0), (2, 0, 0, 0)] rfl (by decide)
                    case hp => rfl
                    refine G.rgC tab_ok ok_implSample (hk := ?_)
                    refine G.fin tab_ok (hr := ?_)
                    simp only [oneOrTup]
                    unfold sampleP
                    rw [if_neg h1, if_neg h2, if_neg h3, if_neg h4, if_neg h5, if_neg h6, if_neg h7, if_neg h8, if_pos h9]
                    rfl
                  · try simp only [zz, bne_iff_ne, beq_iff_eq, bne_eq_false_iff_eq, beq_eq_false_iff_ne, ne_eq, gt_iff_lt, ge_iff_le] at h9
                    apply G.seq
                    refine G.rg tab_ok ok_implSample (hk := ?_)
                    refine G.iff (h1 := fun h10 => ?_) (h2 := fun h10 => ?_)
                    · try simp only [zz, bne_iff_ne, beq_iff_eq, bne_eq_false_iff_eq, beq_eq_false_iff_ne, ne_eq, gt_iff_lt, ge_iff_le] at h10
                      apply G.seq
                      refine G.rgN 6 tab_ok ok_implSample (hk := ?_)
                      apply G.callM (f := 0) (fid := 130)
                      case he => exact en_sampleMade
                      case ho => rfl
                      case hg => rfl
                      case hf => rfl
                      case hc => exact sampleMade_mc _ 0 1 [(2, 0, 0, 0), (3, 1, 1, 0), (4, 0, 0, 1)] rfl (by decide)
                      case hp => rfl
                      refine G.rgC tab_ok ok_implSample (hk := ?_)
                      refine G.fin tab_ok (hr := ?_)
                      simp only [oneOrTup]
                      unfold sampleP
                      rw [if_neg h1, if_neg h2, if_neg h3, if_neg h4, if_neg h5, if_neg h6, if_neg h7, if_neg h8, if_neg h9, if_pos h10]
                      rfl
                    · try simp only [zz, bne_iff_ne, beq_iff_eq, bne_eq_false_iff_eq, beq_eq_false_iff_ne, ne_eq, gt_iff_lt, ge_iff_le] at h10
                      apply G.seq
                      refine G.rg tab_ok ok_implSample (hk := ?_)
                      refine G.iff (h1 := fun h11 => ?_) (h2 := fun h11 => ?_)
                      · try simp only [zz, bne_iff_ne, beq_iff_eq, bne_eq_false_iff_eq, beq_eq_false_iff_ne, ne_eq, gt_iff_lt, ge_iff_le] at h11
                        apply G.seq
                        refine G.rgN 12 tab_ok ok_implSample (hk := ?_)
                        apply G.callM (f := 0) (fid := 130)
                        case he => exact en_sampleMade
                        case ho => rfl
                        case hg => rfl
                        case hf => rfl
                        case hc => exact sampleMade_mc _ 3 1 [(1, 0, 0, 0), (9, 0, 4, 0), (1, 1, 2, 0), (8, 0, 5, 0), (1, 1, 1, 0), (2, 1, 0, 0)] rfl (by decide)
                        case hp => rfl
                        refine G.rgC tab_ok ok_implSample (hk := ?_)
                        refine G.fin tab_ok (hr := ?_)
                        simp only [oneOrTup]
                        unfold sampleP
                        rw [if_neg h1, if_neg h2, if_neg h3, if_neg h4, if_neg h5, if_neg h6, if_neg h7, if_neg h8, if_neg h9, if_neg h10, if_pos h11]
                        rfl
                      · try simp only [zz, bne_iff_ne, beq_iff_eq, bne_eq_false_iff_eq, beq_eq_false_iff_ne, ne_eq, gt_iff_lt, ge_iff_le] at h11
                        apply G.skip
                        apply G.blk
                        apply G.seq
                        refine G.rg tab_ok ok_implSample (hk := ?_)
                        refine G.focusNil 0 0 2 4 rfl rfl rfl ?_
                        refine G.fin tab_ok (hr := ?_)
                        simp only [oneOrTup]
                        unfold sampleP
                        rw [if_neg h1, if_neg h2, if_neg h3, if_neg h4, if_neg h5, if_neg h6, if_neg h7, if_neg h8, if_neg h9, if_neg h10, if_neg h11]
                        rfl
def r_implSample (xs0 : List A) (rr : A) : Prop := ∃ (s : ByteArray), xs0 = [.str s] ∧ rr = .agg [.int .i64 (sampleP s).1, .int .i64 (sampleP s).2.1, .row true 4 ((sampleP s).2.2.map insv)]
noncomputable def q_implSample : List A → Option A := kgr r_implSample
theorem k_implSample : KOk Try.prog (53, q_implSample) := kgr_ok (enters_of Try.func53 rfl rfl) (by rintro xs0 rr ⟨s, rfl, rfl⟩; exact implSample_ac s)
theorem e_implSample : ∀ (s : ByteArray), q_implSample [.str s] = some (.agg [.int .i64 (sampleP s).1, .int .i64 (sampleP s).2.1, .row true 4 ((sampleP s).2.2.map insv)]) := by
  intro s
  refine kgr_eq (fun xs0 rr r2 h h2 => ?_) ⟨s, rfl, rfl⟩
  obtain ⟨s1, e1, rfl⟩ := h; obtain ⟨s2, e2, rfl⟩ := h2
  rw [e1] at e2
  simp only [List.cons.injEq, A.str.injEq, and_true] at e2
  simp [e2]
end Go.Proofs.Ytimgfinlbhodhaa.Ab

namespace Go.Proofs.Ytimgfinlbhodhaa.Ab
open Go
set_option linter.unusedVariables false
set_option linter.unusedSimpArgs false
set_option maxHeartbeats 4000000
theorem mul64_ac (n : Int) (hc1 : 0 ≤ n) (hc2 : n ≤ 400) : AC Try.prog 206 [.int .u64 1, .int .u64 n] (.tup [.int .u64 0, .int .u64 n]) := by
  have ha1 : (BitVec.ofInt IntKind.u64.bits 1 &&& BitVec.ofInt IntKind.u64.bits 4294967295).toNat = 1 := by decide
  have han : (BitVec.ofInt IntKind.u64.bits n &&& BitVec.ofInt IntKind.u64.bits 4294967295).toNat = n.toNat := by
    have h : ∀ m : Fin 401, (BitVec.ofInt IntKind.u64.bits (m.val : Int) &&& BitVec.ofInt IntKind.u64.bits 4294967295).toNat = m.val := by decide +kernel
    have := h ⟨n.toNat, by omega⟩
    simp only [Int.toNat_of_nonneg hc1] at this
    exact this
  have ha0 : (BitVec.ofInt IntKind.u64.bits 0 &&& BitVec.ofInt IntKind.u64.bits 4294967295).toNat = 0 := by decide
  have hw1 : IntKind.u64.wrap 1 = 1 := by decide
  have hw0 : IntKind.u64.wrap 0 = 0 := by decide
  have hwn : IntKind.u64.wrap n = n := by simp [IntKind.wrap, IntKind.bits, IntKind.signed]; omega
  have hwn2 : IntKind.u64.wrap ((n.toNat : Nat) : Int) = n := by rw [Int.toNat_of_nonneg hc1]; exact hwn
  have hw1' : IntKind.u64.wrap ((1 : Nat) : Int) = 1 := by decide
  have hw0' : IntKind.u64.wrap ((0 : Nat) : Int) = 0 := by decide
  have hm : min 32 IntKind.u64.bits = 32 := by decide
  have hs1 : Int.fdiv 1 (2 ^ 32) = 0 := by decide
  have hs0 : Int.fdiv 0 (2 ^ 32) = 0 := by decide
  have hsn : Int.fdiv n (2 ^ 32) = 0 := by rw [Int.fdiv_eq_ediv_of_nonneg _ (by decide)]; omega
  have e1 : (1 : Int) * n = n := by omega
  have e2 : (0 : Int) * n = 0 := by omega
  have e3 : (0 : Int) + n = n := by omega
  have e4 : n + 0 = n := by omega
  refine AC.of tab_ok Try.func206 rfl (Nat.le_of_ble_eq_true rfl) fun w0 S0 => ?_
  change G _ _ ⟨[(0, .int .u64 1), (1, .int .u64 n)], [], 51⟩
  apply G.seq
  refine G.rg tab_ok (kof_nil _) (hk := ?_)
  apply G.seq
  refine G.rg tab_ok (kof_nil _) (hk := ?_)
  apply G.seq
  refine G.rg tab_ok (kof_nil _) (hk := ?_)
  apply G.seq
  refine G.rg tab_ok (kof_nil _) (hk := ?_)
  apply G.seq
  refine G.rg tab_ok (kof_nil _) (hk := ?_)
  apply G.seq
  refine G.rg tab_ok (kof_nil _) (hk := ?_)
  apply G.seq
  refine G.rg tab_ok (kof_nil _) (hk := ?_)
  apply G.seq
  refine G.rg tab_ok (kof_nil _) (hk := ?_)
  apply G.seq
  refine G.rg tab_ok (kof_nil _) (hk := ?_)
  apply G.seq
  refine G.fg [0, 1, 6, 7, 9, 12, 13] (hk := ?_)
  refine G.rg tab_ok (kof_nil _) (hk := ?_)
  apply G.seq
  refine G.rg tab_ok (kof_nil _) (hk := ?_)
  apply G.seq
  refine G.rg tab_ok (kof_nil _) (hk := ?_)
  refine G.fin tab_ok (hr := ?_)
  rfl
def r_mul64 (xs0 : List A) (rr : A) : Prop := ∃ (n : Int), (0 ≤ n) ∧ (n ≤ 400) ∧ xs0 = [.int .u64 1, .int .u64 n] ∧ rr = .tup [.int .u64 0, .int .u64 n]
noncomputable def q_mul64 : List A → Option A := kgr r_mul64
theorem k_mul64 : KOk Try.prog (206, q_mul64) := kgr_ok (enters_of Try.func206 rfl rfl) (by rintro xs0 rr ⟨n, hc1, hc2, rfl, rfl⟩; exact mul64_ac n hc1 hc2)
theorem e_mul64 : ∀ (n : Int), (0 ≤ n) → (n ≤ 400) → q_mul64 [.int .u64 1, .int .u64 n] = some (.tup [.int .u64 0, .int .u64 n]) := by
  intro n hc1 hc2
  refine kgr_eq (fun xs0 rr r2 h h2 => ?_) ⟨n, hc1, hc2, rfl, rfl⟩
  obtain ⟨n1, _, _, e1, rfl⟩ := h; obtain ⟨n2, _, _, e2, rfl⟩ := h2
  rw [e1] at e2
  simp only [List.cons.injEq, A.int.injEq, A.bool.injEq, A.agg.injEq, A.row.injEq, A.fn.injEq, A.rp.injEq, insv_inj, iv_inj, true_and, and_true] at e2
  simp [e2]
theorem ok_bitsMul : Kn.ok Try.prog (kof [(206, q_mul64)]) := kof_cons k_mul64 ((kof_nil _))
theorem bitsMul_ac (n : Int) (hc1 : 0 ≤ n) (hc2 : n ≤ 400) : AC Try.prog 180 [.int .u64 1, .int .u64 n] (.tup [.int .u64 0, .int .u64 n]) := by
  have e_mul64 := e_mul64
  refine AC.of tab_ok Try.func180 rfl (Nat.le_of_ble_eq_true rfl) fun w0 S0 => ?_
  change G _ _ ⟨[(0, .int .u64 1), (1, .int .u64 n)], [], 30⟩
  apply G.seq
  refine G.rg tab_ok ok_bitsMul (hk := ?_)
  apply G.seq
  refine G.iffF (h2 := ?_)
  apply G.skip
  apply G.seq
  refine G.rg tab_ok ok_bitsMul (hk := ?_)
  apply G.seq
  refine G.rg tab_ok ok_bitsMul (hk := ?_)
  refine G.fin tab_ok (hr := ?_)
  rfl
def r_bitsMul (xs0 : List A) (rr : A) : Prop := ∃ (n : Int), (0 ≤ n) ∧ (n ≤ 400) ∧ xs0 = [.int .u64 1, .int .u64 n] ∧ rr = .tup [.int .u64 0, .int .u64 n]
noncomputable def q_bitsMul : List A → Option A := kgr r_bitsMul
theorem k_bitsMul : KOk Try.prog (180, q_bitsMul) := kgr_ok (enters_of Try.func180 rfl rfl) (by rintro xs0 rr ⟨n, hc1, hc2, rfl, rfl⟩; exact bitsMul_ac n hc1 hc2)
theorem e_bitsMul : ∀ (n : Int), (0 ≤ n) → (n ≤ 400) → q_bitsMul [.int .u64 1, .int .u64 n] = some (.tup [.int .u64 0, .int .u64 n]) := by
  intro n hc1 hc2
  refine kgr_eq (fun xs0 rr r2 h h2 => ?_) ⟨n, hc1, hc2, rfl, rfl⟩
  obtain ⟨n1, _, _, e1, rfl⟩ := h; obtain ⟨n2, _, _, e2, rfl⟩ := h2
  rw [e1] at e2
  simp only [List.cons.injEq, A.int.injEq, A.bool.injEq, A.agg.injEq, A.row.injEq, A.fn.injEq, A.rp.injEq, insv_inj, iv_inj, true_and, and_true] at e2
  simp [e2]
end Go.Proofs.Ytimgfinlbhodhaa.Ab

namespace Go.Proofs.Ytimgfinlbhodhaa.Ab
open Go
set_option linter.unusedVariables false
set_option linter.unusedSimpArgs false
set_option maxHeartbeats 4000000
theorem ok_repeatInt : Kn.ok Try.prog (kof [(180, q_bitsMul)]) := kof_cons k_bitsMul ((kof_nil _))
def repI (x : Int) (N p : Nat) : List (List A) := List.replicate p [.int .i64 x] ++ List.replicate (N - p) [.int .i64 0]
theorem copyable_one (x : Int) : [[A.int .i64 x]].all (fun y => y.all copyable) = true := rfl
theorem repI_len (x : Int) {N p : Nat} (h : p ≤ N) : (repI x N p).length = N := by simp [repI]; omega
theorem repI_full (x : Int) (N : Nat) : repI x N N = (List.replicate N x).map iv := by simp [repI, iv]
theorem repI_take (x : Int) (N p : Nat) : (repI x N p).take p = List.replicate p [.int .i64 x] := by
  unfold repI
  rw [List.take_append_of_le_length (by simp)]
  simp
theorem repI_zero (x : Int) (N : Nat) : cpy (List.replicate N [A.int .i64 0]) 0 (min 1 N) [[.int .i64 x]] = repI x N (min 1 N) := by
  unfold cpy repI
  simp only [List.take_zero, List.nil_append, List.drop_replicate, Nat.zero_add]
  cases N with
  | zero => rfl
  | succ N =>
    have : min 1 (N + 1) = 1 := by omega
    rw [this]; rfl
theorem repI_step (x : Int) {N p : Nat} (h : p ≤ N) : cpy (repI x N p) p (min p (N - p)) (List.replicate p [.int .i64 x]) = repI x N (p + min p (N - p)) := by
  unfold cpy repI
  rw [List.take_append_of_le_length (by simp), List.drop_append]
  simp only [List.take_replicate, List.drop_replicate, List.length_replicate, Nat.min_self]
  rw [show p - (p + min p (N - p)) = 0 by omega, show p + min p (N - p) - p = min p (N - p) by omega, List.replicate_zero, List.nil_append, ← List.append_assoc, List.replicate_append_replicate]
  rw [show min (min p (N - p)) p = min p (N - p) by omega, show N - p - min p (N - p) = N - (p + min p (N - p)) by omega]
theorem copyable_rep (x : Int) (p : Nat) : (List.replicate p [A.int .i64 x]).all (fun y => y.all copyable) = true := by
  rw [List.all_eq_true]; intro y hy; rw [(List.mem_replicate.1 hy).2]; rfl
theorem repI_pure (x : Int) (N p : Nat) : pureLL (repI x N p) = true := by
  unfold repI
  rw [pureLL_app, pureLL_rep, pureLL_rep]
  simp [pureL, pureA]
theorem repeatInt_ac (x : Int) (n : Int) (hc1 : 0 ≤ n) (hc2 : n ≤ 400) : AC Try.prog 132 [.row false 1 [[.int .i64 x]], .int .i64 n] (.row true 1 ((List.replicate n.toNat x).map iv)) := by
  have e_bitsMul := e_bitsMul
  have hwn : IntKind.u64.wrap n = n := by simp [IntKind.wrap, IntKind.bits, IntKind.signed]; omega
  have hw1 : IntKind.u64.wrap 1 = 1 := by decide
  have hwi : IntKind.i64.wrap n = n := wrap64 (by omega) (by omega)
  have hlt : ¬ n < 0 := by omega
  have hgt : ¬ n > 9223372036854775807 := by omega
  have hb1 : n ≤ 4611686018427387904 := by omega
  have hb2 : 8 * n ≤ 140737488355328 := by omega
  have hc3 := copyable_one x
  refine AC.of tab_ok Try.func132 rfl (Nat.le_of_ble_eq_true rfl) fun w0 S0 => ?_
  change G _ _ ⟨[(0, .row false 1 [[.int .i64 x]]), (1, .int .i64 n)], [], 48⟩
  apply G.seq
  refine G.rg tab_ok ok_repeatInt (hk := ?_)
  apply G.seq
  apply G.seq
  refine G.rg tab_ok ok_repeatInt (hk := ?_)
  refine G.iffF (h2 := ?_)
  apply G.skip
  apply G.seq
  refine G.rg tab_ok ok_repeatInt (hk := ?_)
  apply G.seq
  apply G.seq
  refine G.rg tab_ok ok_repeatInt (hk := ?_)
  refine G.fg [0, 6, 26, 38, 39, 40, 41, 42, 43, 44, 45, 46] (hk := ?_)
  refine G.iffF (h2 := ?_)
  apply G.skip
  apply G.seq
  refine G.rg tab_ok ok_repeatInt (hk := ?_)
  apply G.seq
  refine G.rg tab_ok ok_repeatInt (hk := ?_)
  apply G.seq
  apply G.block
  have hcp : pureLL (cpy (List.replicate n.toNat [A.int .i64 0]) 0 (min 1 n.toNat) [[.int .i64 x]]) = true := by rw [repI_zero]; exact repI_pure ..
  refine G.cn [7, 8] [0] (h := ?_)
  refine G.loopX (fun p : Nat => ⟨[(7, .sl 0 0 n.toNat), (8, .int .i64 p)], [some (1, repI x n.toNat p)], 48⟩) (fun p => p ≤ n.toNat ∧ min 1 n.toNat ≤ p) (fun p => n.toNat - p) (min 1 n.toNat) (⟨by omega, by omega⟩) (by simp only [List.length_cons, List.length_nil, Nat.zero_add, ← repI_zero]) ?_
  intro p hp J hJ
  obtain ⟨hp, hp1⟩ := hp
  have hlen := repI_len x hp
  have htk := repI_take x n.toNat p
  have hcr := copyable_rep x p
  have hle : p + (n.toNat - p) ≤ n.toNat := by omega
  have hw : IntKind.i64.wrap ((p : Int) + ((min p (n.toNat - p) : Nat) : Int)) = (p : Int) + ((min p (n.toNat - p) : Nat) : Int) := wrap64 (by omega) (by omega)
  have hs := repI_step x hp
  apply G.seq
  apply G.seq
  refine G.rg tab_ok ok_repeatInt (hk := ?_)
  refine G.iff (h1 := fun h3 => ?_) (h2 := fun h3 => ?_)
  · try simp only [zz, bne_iff_ne, beq_iff_eq, bne_eq_false_iff_eq, beq_eq_false_iff_ne, ne_eq, gt_iff_lt, ge_iff_le] at h3
    apply G.skip
    apply G.block
    refine G.dr mixed tab_ok ok_repeatInt [0, 1, 2, 3, 4, 5, 6, 7, 8, 9] (hk := ?_)
    apply G.blk
    have hpu := repI_pure x n.toNat (p + min p (n.toNat - p))
    refine G.cn [7, 8] [0] (h := ?_)
    exact G.upto (hJ (p + min p (n.toNat - p)) ⟨by omega, by omega⟩ (by omega)) (by simp)
  · try simp only [zz, bne_iff_ne, beq_iff_eq, bne_eq_false_iff_eq, beq_eq_false_iff_ne, ne_eq, gt_iff_lt, ge_iff_le] at h3
    refine G.exit rfl ?_
    apply G.seq
    refine G.rg tab_ok ok_repeatInt (hk := ?_)
    obtain rfl : p = n.toNat := by omega
    have hpu := repI_pure x n.toNat n.toNat
    have hfull := repI_full x n.toNat
    refine G.fin tab_ok (hr := ?_)
    rw [List.take_of_length_le (by simp)]; rfl
def r_repeatInt (xs0 : List A) (rr : A) : Prop := ∃ (x : Int) (n : Int), (0 ≤ n) ∧ (n ≤ 400) ∧ xs0 = [.row false 1 [[.int .i64 x]], .int .i64 n] ∧ rr = .row true 1 ((List.replicate n.toNat x).map iv)
noncomputable def q_repeatInt : List A → Option A := kgr r_repeatInt
theorem k_repeatInt : KOk Try.prog (132, q_repeatInt) := kgr_ok (enters_of Try.func132 rfl rfl) (by rintro xs0 rr ⟨x, n, hc1, hc2, rfl, rfl⟩; exact repeatInt_ac x n hc1 hc2)
theorem e_repeatInt : ∀ (x : Int) (n : Int), (0 ≤ n) → (n ≤ 400) → q_repeatInt [.row false 1 [[.int .i64 x]], .int .i64 n] = some (.row true 1 ((List.replicate n.toNat x).map iv)) := by
  intro x n hc1 hc2
  refine kgr_eq (fun xs0 rr r2 h h2 => ?_) ⟨x, n, hc1, hc2, rfl, rfl⟩
  obtain ⟨x1, n1, _, _, e1, rfl⟩ := h; obtain ⟨x2, n2, _, _, e2, rfl⟩ := h2
  rw [e1] at e2
  simp only [List.cons.injEq, A.int.injEq, A.bool.injEq, A.agg.injEq, A.row.injEq, A.fn.injEq, A.rp.injEq, insv_inj, iv_inj, true_and, and_true] at e2
  simp [e2]
end Go.Proofs.Ytimgfinlbhodhaa.Ab
