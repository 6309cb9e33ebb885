/- Walks of functions. -/
import Derived.Test.YtdcjlemkegifjaaDoorAbA1
namespace Go.Proofs.YtdcjlemkegifjaaDoor.Ab
open Go
set_option linter.unusedVariables false
set_option linter.unusedSimpArgs false
set_option maxHeartbeats 4000000
def strOk (xs : List Int) : Bool := xs.all tok && decide ((xs.length : Int) ≤ 400)
section
variable {α : Type}
def gidx (p : α → Bool) (l : List α) : Int := match l.findIdx? p with
 | some i => i
 | none => -1
theorem gidx_pos (p : α → Bool) (l : List α) : decide (gidx (fun x => !(p x)) l ≥ 0) = !(l.all p) := by
 rw [Bool.eq_iff_iff]
 unfold gidx
 cases h : l.findIdx? (fun x => !(p x)) with
 | none =>
  rw [List.findIdx?_eq_none_iff] at h
  have : l.all p = true := by rw [List.all_eq_true]; intro x hx; simpa using h x hx
  simp [this]
 | some j =>
  rw [List.findIdx?_eq_some_iff_getElem] at h
  obtain ⟨h1, h2, _⟩ := h
  have : l.all p = false := by rw [List.all_eq_false]; exact ⟨l[j], List.getElem_mem h1, by simpa using h2⟩
  simp [this]
variable [Inhabited α]
theorem gidx_some {p : α → Bool} {l : List α} {j : Nat} (hj : j < l.length) (hall : ∀ k < j, p (l.getD k default) = false) (h : p (l.getD j default) = true) : gidx p l = j := by
 have : l.findIdx? p = some j := by
  rw [List.findIdx?_eq_some_iff_getElem]
  refine ⟨hj, by simpa [hj] using h, fun k hk => ?_⟩
  have hk2 : k < l.length := by omega
  simpa [hk2] using hall k hk
 unfold gidx
 rw [this]
theorem gidx_none {p : α → Bool} {l : List α} (hall : ∀ k < l.length, p (l.getD k default) = false) : gidx p l = -1 := by
 have : l.findIdx? p = none := by
  rw [List.findIdx?_eq_none_iff]
  intro x hx
  obtain ⟨k, hk, rfl⟩ := List.getElem_of_mem hx
  simpa [hk] using hall k hk
 unfold gidx
 rw [this]
theorem gupto {l : List α} {p : α → Bool} {b : Bool} {i : Nat} (h : ∀ j < i, p (l.getD j default) = b) (h2 : p (l.getD i default) = b) : ∀ j < i + 1, p (l.getD j default) = b := by
 intro j hj
 by_cases e : j = i
 ·rw [e]; exact h2
 ·exact h j (by omega)
theorem gall {l : List α} {p : α → Bool} (h : ∀ j < l.length, p (l.getD j default) = true) : l.all p = true := by
 rw [List.all_eq_true]
 intro x hx
 obtain ⟨j, hj, rfl⟩ := List.getElem_of_mem hx
 simpa [hj] using h j hj
theorem gnot {l : List α} {p : α → Bool} {j : Nat} (hj : j < l.length) (h : p (l.getD j default) = false) : l.all p = false := by
 rw [List.all_eq_false]
 refine ⟨l[j], List.getElem_mem hj, ?_⟩
 simpa [hj] using h
theorem geq_upto {l m : List α} {i : Nat} (h : ∀ j < i, l.getD j default = m.getD j default) (h2 : l.getD i default = m.getD i default) : ∀ j < i + 1, l.getD j default = m.getD j default := by
 intro j hj
 by_cases e : j = i
 ·rw [e]; exact h2
 ·exact h j (by omega)
theorem geq_all {l m : List α} (hl : l.length = m.length) (h : ∀ j < l.length, l.getD j default = m.getD j default) : l = m := by
 apply List.ext_getElem hl
 intro j h1 h2
 have := h j h1
 simpa [h1, h2] using this
end
theorem ok_specIsStream : Kn.ok Tryd.prog (kof [(22, q_l1Token)]) := kof_cons k_l1Token ((kof_nil _))
theorem specIsStream_ac (rs : List Int) (hc1 : rs.length < 17592186044416) : AC Tryd.prog 13 [.row false 1 (rs.map iv)] (.bool (strOk rs)) := by
 have e_l1Token := e_l1Token
 refine AC.of tab_ok Tryd.func13 rfl (Nat.le_of_ble_eq_true rfl) fun w0 S0 => ?_
 change G _ _ ⟨[(0, .row false 1 (rs.map iv))], [], 18⟩
 apply G.seq
 refine G.rg tab_ok ok_specIsStream (hk := ?_)
 apply G.seq
 apply G.seq
 refine G.rg tab_ok ok_specIsStream (hk := ?_)
 apply G.block
 refine G.cn [0, 5, 6, 7] [] (h := ?_)
 refine G.loopX (fun j : Nat => ⟨[(0, .row false 1 (rs.map iv)), (5, .row false 1 (rs.map iv)), (6, .int .i64 rs.length), (7, .int .i64 j)], [], 18⟩) (fun j => j ≤ rs.length ∧ ∀ k < j, tok (rs.getD k default) = true) (fun j => rs.length - j) (0) (⟨Nat.zero_le _, by omega⟩) (rfl) ?_
 intro j hj J hJ
 obtain ⟨hj, hall⟩ := hj
 have hw : IntKind.i64.wrap ((j : Int) + 1) = (j : Int) + 1 := wrap64 (by omega) (by omega)
 apply G.seq
 refine G.rg tab_ok ok_specIsStream (hk := ?_)
 apply G.seq
 refine G.iff (h1 := fun h1 => ?_) (h2 := fun h1 => ?_)
 ·try simp only [zqz] at h1
  apply G.skip
  apply G.seq
  apply G.block
  apply G.seq
  refine G.rg tab_ok ok_specIsStream (hk := ?_)
  apply G.seq
  refine G.rg tab_ok ok_specIsStream (hk := ?_)
  refine G.iff (h1 := fun h2 => ?_) (h2 := fun h2 => ?_)
  ·try simp only [zqz] at h2
   apply G.seq
   refine G.rg tab_ok ok_specIsStream (hk := ?_)
   refine G.fin tab_ok (hr := ?_)
   simp only [oneOrTup]
   congr 1
   symm
   unfold strOk
   rw [gnot h1 h2]
   rfl
  ·try simp only [zqz] at h2
   apply G.skip
   apply G.blk
   refine G.rg tab_ok ok_specIsStream (hk := ?_)
   refine G.cn [0, 5, 6, 7] [] (h := ?_)
   exact G.upto (hJ (j + 1) ⟨by omega, gupto (p := tok) hall h2⟩ (by omega)) (by simp)
 ·try simp only [zqz] at h1
  refine G.exit rfl ?_
  apply G.seq
  refine G.rg tab_ok ok_specIsStream (hk := ?_)
  refine G.fin tab_ok (hr := ?_)
  simp only [oneOrTup]
  congr 1
  unfold strOk
  rw [gall (p := tok) (fun k hk => hall k (by omega)), Bool.true_and]
def r_specIsStream (xs0 : List A) (rr : A) : Prop := ∃ (rs : List Int), (rs.length < 17592186044416) ∧ xs0 = [.row false 1 (rs.map iv)] ∧ rr = .bool (strOk rs)
noncomputable def q_specIsStream : List A → Option A := kgr r_specIsStream
theorem k_specIsStream : KOk Tryd.prog (13, q_specIsStream) := kgr_ok (enters_of Tryd.func13 rfl rfl) (by rintro xs0 rr ⟨rs, hc1, rfl, rfl⟩; exact specIsStream_ac rs hc1)
theorem e_specIsStream : ∀ (rs : List Int), (rs.length < 17592186044416) → q_specIsStream [.row false 1 (rs.map iv)] = some (.bool (strOk rs)) := by
 intro rs hc1
 refine kgr_eq (fun xs0 rr r2 h h2 => ?_) ⟨rs, hc1, rfl, rfl⟩
 obtain ⟨rs1, _, e1, rfl⟩ := h; obtain ⟨rs2, _, e2, rfl⟩ := h2
 rw [e1] at e2
 simp only [List.cons.injEq, A.int.injEq, A.bool.injEq, A.agg.injEq, A.row.injEq, A.fn.injEq, A.rp.injEq, insv_inj, iv_inj, true_and, and_true] at e2
 simp [e2]
theorem ok_isStream1 : Kn.ok Tryd.prog (kof [(25, q_isToken)]) := kof_cons k_isToken ((kof_nil _))
theorem isStream1_ac (x : Int)  : AC Tryd.prog 24 [.int .i64 x] (.bool (!(tok x))) := by
 have e_isToken := e_isToken
 refine AC.of tab_ok Tryd.func24 rfl (Nat.le_of_ble_eq_true rfl) fun w0 S0 => ?_
 change G _ _ ⟨[(0, .int .i64 x)], [], 6⟩
 apply G.seq
 refine G.rg tab_ok ok_isStream1 (hk := ?_)
 apply G.seq
 refine G.rg tab_ok ok_isStream1 (hk := ?_)
 refine G.fin tab_ok (hr := ?_)
 rfl
def r_isStream1 (xs0 : List A) (rr : A) : Prop := ∃ (x : Int), xs0 = [.int .i64 x] ∧ rr = .bool (!(tok x))
noncomputable def q_isStream1 : List A → Option A := kgr r_isStream1
theorem k_isStream1 : KOk Tryd.prog (24, q_isStream1) := kgr_ok (enters_of Tryd.func24 rfl rfl) (by rintro xs0 rr ⟨x, rfl, rfl⟩; exact isStream1_ac x)
theorem e_isStream1 : ∀ (x : Int), q_isStream1 [.int .i64 x] = some (.bool (!(tok x))) := by
 intro x
 refine kgr_eq (fun xs0 rr r2 h h2 => ?_) ⟨x, rfl, rfl⟩
 obtain ⟨x1, e1, rfl⟩ := h; obtain ⟨x2, e2, rfl⟩ := h2
 rw [e1] at e2
 simp only [List.cons.injEq, A.int.injEq, A.bool.injEq, A.agg.injEq, A.row.injEq, A.fn.injEq, A.rp.injEq, insv_inj, iv_inj, true_and, and_true] at e2
 simp [e2]
theorem ok_indexTok : Kn.ok Tryd.prog (kof [(24, q_isStream1)]) := kof_cons k_isStream1 ((kof_nil _))
theorem indexTok_ac (rs : List Int) (hc1 : rs.length < 17592186044416) : AC Tryd.prog 33 [.row false 1 (rs.map iv), .fn 24 []] (.int .i64 (gidx (fun x => !(tok x)) rs)) := by
 have e_isStream1 := e_isStream1
 refine AC.of tab_ok Tryd.func33 rfl (Nat.le_of_ble_eq_true rfl) fun w0 S0 => ?_
 change G _ _ ⟨[(0, .row false 1 (rs.map iv)), (1, .fn 24 [])], [], 19⟩
 apply G.seq
 refine G.rg tab_ok ok_indexTok (hk := ?_)
 apply G.seq
 apply G.seq
 refine G.rg tab_ok ok_indexTok (hk := ?_)
 apply G.block
 refine G.cn [0, 1, 7, 8] [] (h := ?_)
 refine G.loopX (fun j : Nat => ⟨[(0, .row false 1 (rs.map iv)), (1, .fn 24 []), (7, .int .i64 rs.length), (8, .int .i64 j)], [], 19⟩) (fun j => j ≤ rs.length ∧ ∀ k < j, (fun x => !(tok x)) (rs.getD k default) = false) (fun j => rs.length - j) (0) (⟨Nat.zero_le _, by omega⟩) (rfl) ?_
 intro j hj J hJ
 obtain ⟨hj, hall⟩ := hj
 have hw : IntKind.i64.wrap ((j : Int) + 1) = (j : Int) + 1 := wrap64 (by omega) (by omega)
 apply G.seq
 refine G.rg tab_ok ok_indexTok (hk := ?_)
 apply G.seq
 refine G.iff (h1 := fun h1 => ?_) (h2 := fun h1 => ?_)
 ·try simp only [zqz] at h1
  apply G.skip
  apply G.seq
  apply G.block
  apply G.seq
  refine G.rg tab_ok ok_indexTok (hk := ?_)
  apply G.seq
  refine G.rg tab_ok ok_indexTok (hk := ?_)
  refine G.fg [0, 1, 5, 7, 8, 16] (hk := ?_)
  refine G.iff (h1 := fun h2 => ?_) (h2 := fun h2 => ?_)
  ·try simp only [zqz] at h2
   apply G.seq
   refine G.rg tab_ok ok_indexTok (hk := ?_)
   refine G.fin tab_ok (hr := ?_)
   simp only [oneOrTup]
   congr 1
   exact (gidx_some (p := fun x => !(tok x)) h1 hall (by simp only [Bool.not_eq_true']; exact h2)).symm
  ·try simp only [zqz] at h2
   apply G.skip
   apply G.blk
   refine G.rg tab_ok ok_indexTok (hk := ?_)
   refine G.cn [0, 1, 7, 8] [] (h := ?_)
   exact G.upto (hJ (j + 1) ⟨by omega, gupto (p := fun x => !(tok x)) hall (by simp only [Bool.not_eq_false']; exact h2)⟩ (by omega)) (by simp)
 ·try simp only [zqz] at h1
  refine G.exit rfl ?_
  apply G.seq
  refine G.rg tab_ok ok_indexTok (hk := ?_)
  refine G.fin tab_ok (hr := ?_)
  simp only [oneOrTup]
  congr 1
  exact (gidx_none (fun k hk => hall k (by omega))).symm
def r_indexTok (xs0 : List A) (rr : A) : Prop := ∃ (rs : List Int), (rs.length < 17592186044416) ∧ xs0 = [.row false 1 (rs.map iv), .fn 24 []] ∧ rr = .int .i64 (gidx (fun x => !(tok x)) rs)
noncomputable def q_indexTok : List A → Option A := kgr r_indexTok
theorem k_indexTok : KOk Tryd.prog (33, q_indexTok) := kgr_ok (enters_of Tryd.func33 rfl rfl) (by rintro xs0 rr ⟨rs, hc1, rfl, rfl⟩; exact indexTok_ac rs hc1)
theorem e_indexTok : ∀ (rs : List Int), (rs.length < 17592186044416) → q_indexTok [.row false 1 (rs.map iv), .fn 24 []] = some (.int .i64 (gidx (fun x => !(tok x)) rs)) := by
 intro rs hc1
 refine kgr_eq (fun xs0 rr r2 h h2 => ?_) ⟨rs, hc1, rfl, rfl⟩
 obtain ⟨rs1, _, e1, rfl⟩ := h; obtain ⟨rs2, _, e2, rfl⟩ := h2
 rw [e1] at e2
 simp only [List.cons.injEq, A.int.injEq, A.bool.injEq, A.agg.injEq, A.row.injEq, A.fn.injEq, A.rp.injEq, insv_inj, iv_inj, true_and, and_true] at e2
 simp [e2]
theorem ok_containsTok : Kn.ok Tryd.prog (kof [(33, q_indexTok)]) := kof_cons k_indexTok ((kof_nil _))
theorem containsTok_ac (rs : List Int) (hc1 : rs.length < 17592186044416) : AC Tryd.prog 23 [.row false 1 (rs.map iv), .fn 24 []] (.bool (!(rs.all tok))) := by
 have e_indexTok := e_indexTok
 refine AC.of tab_ok Tryd.func23 rfl (Nat.le_of_ble_eq_true rfl) fun w0 S0 => ?_
 change G _ _ ⟨[(0, .row false 1 (rs.map iv)), (1, .fn 24 [])], [], 9⟩
 apply G.seq
 refine G.rg tab_ok ok_containsTok (hk := ?_)
 apply G.seq
 refine G.rg tab_ok ok_containsTok (hk := ?_)
 refine G.fin tab_ok (hr := ?_)
 simp only [oneOrTup]
 congr 1
 exact gidx_pos _ _
def r_containsTok (xs0 : List A) (rr : A) : Prop := ∃ (rs : List Int), (rs.length < 17592186044416) ∧ xs0 = [.row false 1 (rs.map iv), .fn 24 []] ∧ rr = .bool (!(rs.all tok))
noncomputable def q_containsTok : List A → Option A := kgr r_containsTok
theorem k_containsTok : KOk Tryd.prog (23, q_containsTok) := kgr_ok (enters_of Tryd.func23 rfl rfl) (by rintro xs0 rr ⟨rs, hc1, rfl, rfl⟩; exact containsTok_ac rs hc1)
theorem e_containsTok : ∀ (rs : List Int), (rs.length < 17592186044416) → q_containsTok [.row false 1 (rs.map iv), .fn 24 []] = some (.bool (!(rs.all tok))) := by
 intro rs hc1
 refine kgr_eq (fun xs0 rr r2 h h2 => ?_) ⟨rs, hc1, rfl, rfl⟩
 obtain ⟨rs1, _, e1, rfl⟩ := h; obtain ⟨rs2, _, e2, rfl⟩ := h2
 rw [e1] at e2
 simp only [List.cons.injEq, A.int.injEq, A.bool.injEq, A.agg.injEq, A.row.injEq, A.fn.injEq, A.rp.injEq, insv_inj, iv_inj, true_and, and_true] at e2
 simp [e2]
theorem ok_implIsStream : Kn.ok Tryd.prog (kof [(23, q_containsTok)]) := kof_cons k_containsTok ((kof_nil _))
theorem implIsStream_ac (rs : List Int) (hc1 : rs.length < 17592186044416) : AC Tryd.prog 15 [.row false 1 (rs.map iv)] (.bool (strOk rs)) := by
 have e_containsTok := e_containsTok
 refine AC.of tab_ok Tryd.func15 rfl (Nat.le_of_ble_eq_true rfl) fun w0 S0 => ?_
 change G _ _ ⟨[(0, .row false 1 (rs.map iv))], [], 11⟩
 apply G.seq
 refine G.rg tab_ok ok_implIsStream (hk := ?_)
 apply G.seq
 refine G.rg tab_ok ok_implIsStream (hk := ?_)
 refine G.fin tab_ok (hr := ?_)
 simp only [oneOrTup]
 congr 1
 unfold strOk
 rw [Bool.not_not, Bool.and_comm]
def r_implIsStream (xs0 : List A) (rr : A) : Prop := ∃ (rs : List Int), (rs.length < 17592186044416) ∧ xs0 = [.row false 1 (rs.map iv)] ∧ rr = .bool (strOk rs)
noncomputable def q_implIsStream : List A → Option A := kgr r_implIsStream
theorem k_implIsStream : KOk Tryd.prog (15, q_implIsStream) := kgr_ok (enters_of Tryd.func15 rfl rfl) (by rintro xs0 rr ⟨rs, hc1, rfl, rfl⟩; exact implIsStream_ac rs hc1)
theorem e_implIsStream : ∀ (rs : List Int), (rs.length < 17592186044416) → q_implIsStream [.row false 1 (rs.map iv)] = some (.bool (strOk rs)) := by
 intro rs hc1
 refine kgr_eq (fun xs0 rr r2 h h2 => ?_) ⟨rs, hc1, rfl, rfl⟩
 obtain ⟨rs1, _, e1, rfl⟩ := h; obtain ⟨rs2, _, e2, rfl⟩ := h2
 rw [e1] at e2
 simp only [List.cons.injEq, A.int.injEq, A.bool.injEq, A.agg.injEq, A.row.injEq, A.fn.injEq, A.rp.injEq, insv_inj, iv_inj, true_and, and_true] at e2
 simp [e2]
theorem eqIntS_ac (l : List Int) (m : List Int) (hc1 : l.length < 17592186044416) (hc2 : m.length < 17592186044416) : AC Tryd.prog 8 [.row false 1 (l.map iv), .row false 1 (m.map iv)] (.bool (decide (l = m))) := by
 refine AC.of tab_ok Tryd.func8 rfl (Nat.le_of_ble_eq_true rfl) fun w0 S0 => ?_
 change G _ _ ⟨[(0, .row false 1 (l.map iv)), (1, .row false 1 (m.map iv))], [], 26⟩
 apply G.seq
 refine G.rg tab_ok (kof_nil _) (hk := ?_)
 apply G.seq
 apply G.seq
 refine G.rg tab_ok (kof_nil _) (hk := ?_)
 refine G.iff (h1 := fun h1 => ?_) (h2 := fun h1 => ?_)
 ·try simp only [zqz] at h1
  apply G.seq
  refine G.rg tab_ok (kof_nil _) (hk := ?_)
  refine G.fin tab_ok (hr := ?_)
  simp only [oneOrTup]
  congr 1
  symm
  rw [decide_eq_false_iff_not]
  intro e
  exact h1 (by rw [e])
 ·try simp only [zqz] at h1
  apply G.skip
  apply G.seq
  apply G.seq
  refine G.rg tab_ok (kof_nil _) (hk := ?_)
  apply G.block
  refine G.cn [0, 1, 5] [] (h := ?_)
  refine G.loopX (fun i : Nat => ⟨[(0, .row false 1 (l.map iv)), (1, .row false 1 (m.map iv)), (5, .int .i64 i)], [], 26⟩) (fun i => i ≤ l.length ∧ ∀ j < i, l.getD j default = m.getD j default) (fun i => l.length - i) (0) (⟨Nat.zero_le _, by omega⟩) (rfl) ?_
  intro i hi J hJ
  obtain ⟨hi, hall⟩ := hi
  have hw : IntKind.i64.wrap ((i : Int) + 1) = (i : Int) + 1 := wrap64 (by omega) (by omega)
  apply G.seq
  apply G.seq
  refine G.rg tab_ok (kof_nil _) (hk := ?_)
  refine G.iff (h1 := fun h2 => ?_) (h2 := fun h2 => ?_)
  ·try simp only [zqz] at h2
   apply G.skip
   apply G.seq
   apply G.block
   apply G.seq
   have h1m : i < m.length := by omega
   have h1l : i < l.length := by omega
   refine G.dr mixed tab_ok (kof_nil _) [0, 1, 2, 3, 4, 5, 6, 7, 8] (hk := ?_)
   refine G.fg [0, 1, 5, 25] (hk := ?_)
   refine G.iff (h1 := fun h3 => ?_) (h2 := fun h3 => ?_)
   ·try simp only [zqz] at h3
    apply G.seq
    refine G.rg tab_ok (kof_nil _) (hk := ?_)
    refine G.fin tab_ok (hr := ?_)
    simp only [oneOrTup]
    congr 1
    symm
    rw [decide_eq_false_iff_not]
    intro e
    exact h3 (by rw [e])
   ·try simp only [zqz] at h3
    apply G.skip
    apply G.blk
    refine G.rg tab_ok (kof_nil _) (hk := ?_)
    refine G.cn [0, 1, 5] [] (h := ?_)
    exact G.upto (hJ (i + 1) ⟨by omega, geq_upto hall h3⟩ (by omega)) (by simp)
  ·try simp only [zqz] at h2
   refine G.exit rfl ?_
   apply G.seq
   refine G.rg tab_ok (kof_nil _) (hk := ?_)
   refine G.fin tab_ok (hr := ?_)
   simp only [oneOrTup]
   congr 1
   symm
   rw [decide_eq_true_eq]
   exact geq_all (by omega) (fun j hj => hall j (by omega))
def r_eqIntS (xs0 : List A) (rr : A) : Prop := ∃ (l : List Int) (m : List Int), (l.length < 17592186044416) ∧ (m.length < 17592186044416) ∧ xs0 = [.row false 1 (l.map iv), .row false 1 (m.map iv)] ∧ rr = .bool (decide (l = m))
noncomputable def q_eqIntS : List A → Option A := kgr r_eqIntS
theorem k_eqIntS : KOk Tryd.prog (8, q_eqIntS) := kgr_ok (enters_of Tryd.func8 rfl rfl) (by rintro xs0 rr ⟨l, m, hc1, hc2, rfl, rfl⟩; exact eqIntS_ac l m hc1 hc2)
theorem e_eqIntS : ∀ (l : List Int) (m : List Int), (l.length < 17592186044416) → (m.length < 17592186044416) → q_eqIntS [.row false 1 (l.map iv), .row false 1 (m.map iv)] = some (.bool (decide (l = m))) := by
 intro l m hc1 hc2
 refine kgr_eq (fun xs0 rr r2 h h2 => ?_) ⟨l, m, hc1, hc2, rfl, rfl⟩
 obtain ⟨l1, m1, _, _, e1, rfl⟩ := h; obtain ⟨l2, m2, _, _, e2, rfl⟩ := h2
 rw [e1] at e2
 simp only [List.cons.injEq, A.int.injEq, A.bool.injEq, A.agg.injEq, A.row.injEq, A.fn.injEq, A.rp.injEq, insv_inj, iv_inj, true_and, and_true] at e2
 simp [e2]
end Go.Proofs.YtdcjlemkegifjaaDoor.Ab
