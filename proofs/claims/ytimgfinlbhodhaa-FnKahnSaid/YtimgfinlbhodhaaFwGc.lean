/- Walks of functions of the program, and the plain definitions. -/
import Derived.Test.YtimgfinlbhodhaaFwGb
namespace Go.Proofs.Ytimgfinlbhodhaa.Ab
open Go
set_option linter.unusedVariables false
set_option linter.unusedSimpArgs false
set_option maxHeartbeats 4000000
theorem l1Copy_ac (rs : List Int) (hc1 : rs.length ≤ 1048576) : AC Try.prog 154 [.row false 1 (rs.map iv)] (.row true 1 (rs.map iv)) := by
 have hb1 : ((0 + rs.length : Nat) : Int) ≤ 4611686018427387904 := by omega
 have hb2 : (0 + rs.length) * 8 ≤ 70368744177664 := by omega
 have hb3 : (rs.length : Int) ≤ 4611686018427387904 := by omega
 have hb4 : rs.length * 8 ≤ 70368744177664 := by omega
 refine AC.of tab_ok Try.func154 rfl (Nat.le_of_ble_eq_true rfl) fun w0 S0 => ?_
 change G _ _ ⟨[(0, .row false 1 (rs.map iv))], [], 6⟩
 apply G.seq
 refine G.rg tab_ok (kof_nil _) (hk := ?_)
 apply G.seq
 refine G.rg tab_ok (kof_nil _) (hk := ?_)
 refine G.fin tab_ok (hr := ?_)
 rfl
def r_l1Copy (xs0 : List A) (rr : A) : Prop := ∃ (rs : List Int), (rs.length ≤ 1048576) ∧ xs0 = [.row false 1 (rs.map iv)] ∧ rr = .row true 1 (rs.map iv)
noncomputable def q_l1Copy : List A → Option A := kgr r_l1Copy
theorem k_l1Copy : KOk Try.prog (154, q_l1Copy) := kgr_ok (enters_of Try.func154 rfl rfl) (by rintro xs0 rr ⟨rs, hc1, rfl, rfl⟩; exact l1Copy_ac rs hc1)
theorem e_l1Copy : ∀ (rs : List Int), (rs.length ≤ 1048576) → q_l1Copy [.row false 1 (rs.map iv)] = some (.row true 1 (rs.map iv)) := by
 intro rs hc1
 refine kgr_eq (fun xs0 rr r2 h h2 => ?_) ⟨rs, hc1, rfl, rfl⟩
 obtain ⟨rs1, _, e1, rfl⟩ := h; obtain ⟨rs2, _, e2, rfl⟩ := h2
 rw [e1] at e2
 simp only [List.cons.injEq, A.int.injEq, A.bool.injEq, A.agg.injEq, A.row.injEq, A.fn.injEq, A.rp.injEq, insv_inj, iv_inj, true_and, and_true] at e2
 simp [e2]
theorem ok_l2Make : Kn.ok Try.prog (kof [(154, q_l1Copy)]) := kof_cons k_l1Copy ((kof_nil _))
def pad4 (x : List Int) : I4 := ((x ++ [0, 0, 0]).getD 0 default, (x ++ [0, 0, 0]).getD 1 default, (x ++ [0, 0, 0]).getD 2 default, (x ++ [0, 0, 0]).getD 3 default)
def cdI (code : List (List Int)) (j : Nat) : List I4 := (code.take j).map pad4
theorem cdI_zero (code : List (List Int)) : cdI code 0 = [] := by simp [cdI]
theorem cdI_full (code : List (List Int)) : cdI code code.length = code.map pad4 := by simp [cdI]
theorem cdI_len (code : List (List Int)) {j : Nat} (h : j ≤ code.length) : (cdI code j).length = j := by simp [cdI]; omega
theorem cdI_succ {code : List (List Int)} {j : Nat} (h : j < code.length) : cdI code (j + 1) = cdI code j ++ [pad4 (code.getD j default)] := by
 simp only [cdI, List.take_succ_eq_append_getElem h, List.map_append, List.map_cons, List.map_nil]
 simp [h]
def ivL (x : List Int) : List A := [.row false 1 (x.map iv)]
theorem ivL_eq (x : List Int) : ivL x = [.row false 1 (x.map iv)] := rfl
theorem pureLL_ivL (l : List (List Int)) : pureLL (l.map ivL) = true := pureLL_all (fun _ => rfl) l
theorem ivL_inj {l l' : List (List Int)} : l.map ivL = l'.map ivL ↔ l = l' := ⟨map_inj (fun x y h => by simpa [ivL, iv_inj] using h), fun h => by rw [h]⟩
theorem cat3 (x : List Int) : x.map iv ++ [[.int .i64 0], [.int .i64 0], [.int .i64 0]] = (x ++ [0, 0, 0]).map iv := by simp [iv]
theorem l2Make_ac (i : Int) (o : Int) (code : List (List Int)) (hc1 : code.length ≤ 24) (hc2 : ∀ x ∈ code, 1 ≤ x.length ∧ x.length ≤ 4) : AC Try.prog 156 [.int .i64 i, .int .i64 o, .row false 1 (code.map ivL)] (.agg [.int .i64 i, .int .i64 o, .row true 4 ((code.map pad4 ++ [(8, 0, 0, 0)]).map insv)]) := by
 have e_l1Copy := e_l1Copy
 have hivl := ivL_eq
 have hc3 := cat3
 have hp8 : ∀ j : Nat, pureLL (List.map insv (cdI code j) ++ [[.int .i64 8, .int .i64 0, .int .i64 0, .int .i64 0]]) = true := fun j => by rw [pureLL_app, pureLL_insv]; rfl
 refine AC.of tab_ok Try.func156 rfl (Nat.le_of_ble_eq_true rfl) fun w0 S0 => ?_
 change G _ _ ⟨[(0, .int .i64 i), (1, .int .i64 o), (2, .row false 1 (code.map ivL))], [], 50⟩
 apply G.seq
 refine G.rg tab_ok ok_l2Make (hk := ?_)
 apply G.seq
 refine G.rg tab_ok ok_l2Make (hk := ?_)
 apply G.seq
 apply G.seq
 refine G.rg tab_ok ok_l2Make (hk := ?_)
 apply G.block
 refine G.focusNil 1 0 2 4 rfl rfl rfl ?_
 simp only [withH]
 refine G.nm [6, 7, 14, 15, 16] (h := ?_)
 refine G.loopX (fun j : Nat => ⟨[(6, .ptr 0 0 0), (7, .ptr 1 0 0), (14, .row false 1 (code.map ivL)), (15, .int .i64 code.length), (16, .int .i64 j)], [some (3, [[.int .i64 0, .int .i64 0, .nils]]), some (3, [[.int .i64 i, .int .i64 o, .sl 2 0 (cdI code j).length]]), some (4, (cdI code j).map insv)], 50⟩) (fun j => j ≤ code.length) (fun j => code.length - j) (0) (Nat.zero_le _) (by simp [cdI_zero]) ?_
 intro j hj J hJ
 have hw : IntKind.i64.wrap ((j : Int) + 1) = (j : Int) + 1 := wrap64 (by omega) (by omega)
 have hlj : (cdI code j).length ≤ 24 := by rw [cdI_len code hj]; omega
 have hb3 : (((cdI code j).length + 1 : Nat) : Int) ≤ 4611686018427387904 := by omega
 have hb4 : ((cdI code j).length + 1) * 32 ≤ 70368744177664 := by omega
 apply G.seq
 refine G.rg tab_ok ok_l2Make (hk := ?_)
 apply G.seq
 refine G.iff (h1 := fun h1 => ?_) (h2 := fun h1 => ?_)
 ·try simp only [zqz] at h1
  apply G.skip
  apply G.seq
  apply G.block
  apply G.seq
  refine G.rg tab_ok ok_l2Make (hk := ?_)
  apply G.seq
  generalize hx : code.getD j default = x
  have hmem : x ∈ code := by rw [← hx]; simp [h1]
  have hx1 := (hc2 x hmem).1
  have hx4 := (hc2 x hmem).2
  have hxb : x.length ≤ 1048576 := by omega
  have hb1 : ((x.length + 3 : Nat) : Int) ≤ 4611686018427387904 := by omega
  have hb2 : (x.length + 3) * 8 ≤ 70368744177664 := by omega
  refine G.rg tab_ok ok_l2Make (hk := ?_)
  have k0 : 0 < x.length + 3 := by omega
  have k1 : 1 < x.length + 3 := by omega
  have k2 : 2 < x.length + 3 := by omega
  have k3 : 3 < x.length + 3 := by omega
  have g0 : (0 : Int) < ((x.length + 3 : Nat) : Int) := by omega
  have g1 : (1 : Int) < ((x.length + 3 : Nat) : Int) := by omega
  have g2 : (2 : Int) < ((x.length + 3 : Nat) : Int) := by omega
  have g3 : (3 : Int) < ((x.length + 3 : Nat) : Int) := by omega
  refine G.dr mixed tab_ok ok_l2Make [0, 1, 2, 3, 4, 5, 6, 7, 8, 9, 10, 11, 12, 13, 14, 15, 16, 17, 18] (hk := ?_)
  apply G.blk
  refine G.rg tab_ok ok_l2Make (hk := ?_)
  refine G.nm [6, 7, 14, 15, 16] (h := ?_)
  have hcs : List.map insv (cdI code j) ++ [[.int .i64 ((x ++ [0, 0, 0]).getD 0 default), .int .i64 ((x ++ [0, 0, 0]).getD 1 default), .int .i64 ((x ++ [0, 0, 0]).getD 2 default), .int .i64 ((x ++ [0, 0, 0]).getD 3 default)]] = List.map insv (cdI code (j + 1)) := by rw [cdI_succ h1, hx]; simp [insv, pad4]
  have hl1 : (cdI code j).length + 1 = (cdI code (j + 1)).length := by rw [cdI_len code hj, cdI_len code (show j + 1 ≤ code.length by omega)]
  exact G.upto (hJ (j + 1) (by omega) (by omega)) (by rw [hcs, hl1]; simp)
 ·try simp only [zqz] at h1
  refine G.exit rfl ?_
  apply G.seq
  refine G.rg tab_ok ok_l2Make (hk := ?_)
  apply G.seq
  refine G.rg tab_ok ok_l2Make (hk := ?_)
  refine G.fin tab_ok (hr := ?_)
  obtain rfl : j = code.length := by omega
  rw [List.take_of_length_le (by simp), cdI_full]
  simp [oneOrTup, insv]
def r_l2Make (xs0 : List A) (rr : A) : Prop := ∃ (i : Int) (o : Int) (code : List (List Int)), (code.length ≤ 24) ∧ (∀ x ∈ code, 1 ≤ x.length ∧ x.length ≤ 4) ∧ xs0 = [.int .i64 i, .int .i64 o, .row false 1 (code.map ivL)] ∧ rr = .agg [.int .i64 i, .int .i64 o, .row true 4 ((code.map pad4 ++ [(8, 0, 0, 0)]).map insv)]
noncomputable def q_l2Make : List A → Option A := kgr r_l2Make
theorem k_l2Make : KOk Try.prog (156, q_l2Make) := kgr_ok (enters_of Try.func156 rfl rfl) (by rintro xs0 rr ⟨i, o, code, hc1, hc2, rfl, rfl⟩; exact l2Make_ac i o code hc1 hc2)
theorem e_l2Make : ∀ (i : Int) (o : Int) (code : List (List Int)), (code.length ≤ 24) → (∀ x ∈ code, 1 ≤ x.length ∧ x.length ≤ 4) → q_l2Make [.int .i64 i, .int .i64 o, .row false 1 (code.map ivL)] = some (.agg [.int .i64 i, .int .i64 o, .row true 4 ((code.map pad4 ++ [(8, 0, 0, 0)]).map insv)]) := by
 intro i o code hc1 hc2
 refine kgr_eq (fun xs0 rr r2 h h2 => ?_) ⟨i, o, code, hc1, hc2, rfl, rfl⟩
 obtain ⟨i1, o1, code1, _, _, e1, rfl⟩ := h; obtain ⟨i2, o2, code2, _, _, e2, rfl⟩ := h2
 rw [e1] at e2
 simp only [List.cons.injEq, A.int.injEq, A.row.injEq, ivL_inj, true_and, and_true] at e2
 simp [e2]
def strOk (xs : List Int) : Bool := xs.all tok && decide ((xs.length : Int) ≤ 400)
def actOk (pc n : Int) (rs : List Int) : Bool := inR pc 0 n && ((rs.length : Int) == 4) && strOk rs
section
variable {α : Type}
def gidx (p : α → Bool) (l : List α) : Int := match l.findIdx? p with
 | some i => i
 | none => -1
theorem gidx_pos (p : α → Bool) (l : List α) : decide (gidx (fun x => !(p x)) l ≥ 0) = !(l.all p) := by
 rw [Bool.eq_iff_iff]
 unfold gidx
 cases h : l.findIdx? (fun x => !(p x)) with
 | none =>
  rw [List.findIdx?_eq_none_iff] at h
  have : l.all p = true := by rw [List.all_eq_true]; intro x hx; simpa using h x hx
  simp [this]
 | some j =>
  rw [List.findIdx?_eq_some_iff_getElem] at h
  obtain ⟨h1, h2, _⟩ := h
  have : l.all p = false := by rw [List.all_eq_false]; exact ⟨l[j], List.getElem_mem h1, by simpa using h2⟩
  simp [this]
variable [Inhabited α]
theorem gidx_some {p : α → Bool} {l : List α} {j : Nat} (hj : j < l.length) (hall : ∀ k < j, p (l.getD k default) = false) (h : p (l.getD j default) = true) : gidx p l = j := by
 have : l.findIdx? p = some j := by
  rw [List.findIdx?_eq_some_iff_getElem]
  refine ⟨hj, by simpa [hj] using h, fun k hk => ?_⟩
  have hk2 : k < l.length := by omega
  simpa [hk2] using hall k hk
 unfold gidx
 rw [this]
theorem gidx_none {p : α → Bool} {l : List α} (hall : ∀ k < l.length, p (l.getD k default) = false) : gidx p l = -1 := by
 have : l.findIdx? p = none := by
  rw [List.findIdx?_eq_none_iff]
  intro x hx
  obtain ⟨k, hk, rfl⟩ := List.getElem_of_mem hx
  simpa [hk] using hall k hk
 unfold gidx
 rw [this]
theorem gupto {l : List α} {p : α → Bool} {b : Bool} {i : Nat} (h : ∀ j < i, p (l.getD j default) = b) (h2 : p (l.getD i default) = b) : ∀ j < i + 1, p (l.getD j default) = b := by
 intro j hj
 by_cases e : j = i
 ·rw [e]; exact h2
 ·exact h j (by omega)
theorem gall {l : List α} {p : α → Bool} (h : ∀ j < l.length, p (l.getD j default) = true) : l.all p = true := by
 rw [List.all_eq_true]
 intro x hx
 obtain ⟨j, hj, rfl⟩ := List.getElem_of_mem hx
 simpa [hj] using h j hj
theorem gnot {l : List α} {p : α → Bool} {j : Nat} (hj : j < l.length) (h : p (l.getD j default) = false) : l.all p = false := by
 rw [List.all_eq_false]
 refine ⟨l[j], List.getElem_mem hj, ?_⟩
 simpa [hj] using h
theorem geq_upto {l m : List α} {i : Nat} (h : ∀ j < i, l.getD j default = m.getD j default) (h2 : l.getD i default = m.getD i default) : ∀ j < i + 1, l.getD j default = m.getD j default := by
 intro j hj
 by_cases e : j = i
 ·rw [e]; exact h2
 ·exact h j (by omega)
theorem geq_all {l m : List α} (hl : l.length = m.length) (h : ∀ j < l.length, l.getD j default = m.getD j default) : l = m := by
 apply List.ext_getElem hl
 intro j h1 h2
 have := h j h1
 simpa [h1, h2] using this
end
theorem ok_specIsStream : Kn.ok Try.prog (kof [(148, q_l1Token)]) := kof_cons k_l1Token ((kof_nil _))
theorem specIsStream_ac (rs : List Int) (hc1 : rs.length < 17592186044416) : AC Try.prog 75 [.row false 1 (rs.map iv)] (.bool (strOk rs)) := by
 have e_l1Token := e_l1Token
 refine AC.of tab_ok Try.func75 rfl (Nat.le_of_ble_eq_true rfl) fun w0 S0 => ?_
 change G _ _ ⟨[(0, .row false 1 (rs.map iv))], [], 18⟩
 apply G.seq
 refine G.rg tab_ok ok_specIsStream (hk := ?_)
 apply G.seq
 apply G.seq
 refine G.rg tab_ok ok_specIsStream (hk := ?_)
 apply G.block
 refine G.cn [0, 5, 6, 7] [] (h := ?_)
 refine G.loopX (fun j : Nat => ⟨[(0, .row false 1 (rs.map iv)), (5, .row false 1 (rs.map iv)), (6, .int .i64 rs.length), (7, .int .i64 j)], [], 18⟩) (fun j => j ≤ rs.length ∧ ∀ k < j, tok (rs.getD k default) = true) (fun j => rs.length - j) (0) (⟨Nat.zero_le _, by omega⟩) (rfl) ?_
 intro j hj J hJ
 obtain ⟨hj, hall⟩ := hj
 have hw : IntKind.i64.wrap ((j : Int) + 1) = (j : Int) + 1 := wrap64 (by omega) (by omega)
 apply G.seq
 refine G.rg tab_ok ok_specIsStream (hk := ?_)
 apply G.seq
 refine G.iff (h1 := fun h1 => ?_) (h2 := fun h1 => ?_)
 ·try simp only [zqz] at h1
  apply G.skip
  apply G.seq
  apply G.block
  apply G.seq
  refine G.rg tab_ok ok_specIsStream (hk := ?_)
  apply G.seq
  refine G.rg tab_ok ok_specIsStream (hk := ?_)
  refine G.iff (h1 := fun h2 => ?_) (h2 := fun h2 => ?_)
  ·try simp only [zqz] at h2
   apply G.seq
   refine G.rg tab_ok ok_specIsStream (hk := ?_)
   refine G.fin tab_ok (hr := ?_)
   simp only [oneOrTup]
   congr 1
   symm
   unfold strOk
   rw [gnot h1 h2]
   rfl
  ·try simp only [zqz] at h2
   apply G.skip
   apply G.blk
   refine G.rg tab_ok ok_specIsStream (hk := ?_)
   refine G.cn [0, 5, 6, 7] [] (h := ?_)
   exact G.upto (hJ (j + 1) ⟨by omega, gupto (p := tok) hall h2⟩ (by omega)) (by simp)
 ·try simp only [zqz] at h1
  refine G.exit rfl ?_
  apply G.seq
  refine G.rg tab_ok ok_specIsStream (hk := ?_)
  refine G.fin tab_ok (hr := ?_)
  simp only [oneOrTup]
  congr 1
  unfold strOk
  rw [gall (p := tok) (fun k hk => hall k (by omega)), Bool.true_and]
def r_specIsStream (xs0 : List A) (rr : A) : Prop := ∃ (rs : List Int), (rs.length < 17592186044416) ∧ xs0 = [.row false 1 (rs.map iv)] ∧ rr = .bool (strOk rs)
noncomputable def q_specIsStream : List A → Option A := kgr r_specIsStream
theorem k_specIsStream : KOk Try.prog (75, q_specIsStream) := kgr_ok (enters_of Try.func75 rfl rfl) (by rintro xs0 rr ⟨rs, hc1, rfl, rfl⟩; exact specIsStream_ac rs hc1)
theorem e_specIsStream : ∀ (rs : List Int), (rs.length < 17592186044416) → q_specIsStream [.row false 1 (rs.map iv)] = some (.bool (strOk rs)) := by
 intro rs hc1
 refine kgr_eq (fun xs0 rr r2 h h2 => ?_) ⟨rs, hc1, rfl, rfl⟩
 obtain ⟨rs1, _, e1, rfl⟩ := h; obtain ⟨rs2, _, e2, rfl⟩ := h2
 rw [e1] at e2
 simp only [List.cons.injEq, A.int.injEq, A.bool.injEq, A.agg.injEq, A.row.injEq, A.fn.injEq, A.rp.injEq, insv_inj, iv_inj, true_and, and_true] at e2
 simp [e2]
theorem ok_isStream1 : Kn.ok Try.prog (kof [(101, q_isToken)]) := kof_cons k_isToken ((kof_nil _))
theorem isStream1_ac (x : Int)  : AC Try.prog 163 [.int .i64 x] (.bool (!(tok x))) := by
 have e_isToken := e_isToken
 refine AC.of tab_ok Try.func163 rfl (Nat.le_of_ble_eq_true rfl) fun w0 S0 => ?_
 change G _ _ ⟨[(0, .int .i64 x)], [], 6⟩
 apply G.seq
 refine G.rg tab_ok ok_isStream1 (hk := ?_)
 apply G.seq
 refine G.rg tab_ok ok_isStream1 (hk := ?_)
 refine G.fin tab_ok (hr := ?_)
 rfl
def r_isStream1 (xs0 : List A) (rr : A) : Prop := ∃ (x : Int), xs0 = [.int .i64 x] ∧ rr = .bool (!(tok x))
noncomputable def q_isStream1 : List A → Option A := kgr r_isStream1
theorem k_isStream1 : KOk Try.prog (163, q_isStream1) := kgr_ok (enters_of Try.func163 rfl rfl) (by rintro xs0 rr ⟨x, rfl, rfl⟩; exact isStream1_ac x)
theorem e_isStream1 : ∀ (x : Int), q_isStream1 [.int .i64 x] = some (.bool (!(tok x))) := by
 intro x
 refine kgr_eq (fun xs0 rr r2 h h2 => ?_) ⟨x, rfl, rfl⟩
 obtain ⟨x1, e1, rfl⟩ := h; obtain ⟨x2, e2, rfl⟩ := h2
 rw [e1] at e2
 simp only [List.cons.injEq, A.int.injEq, A.bool.injEq, A.agg.injEq, A.row.injEq, A.fn.injEq, A.rp.injEq, insv_inj, iv_inj, true_and, and_true] at e2
 simp [e2]
theorem ok_indexTok : Kn.ok Try.prog (kof [(163, q_isStream1)]) := kof_cons k_isStream1 ((kof_nil _))
theorem indexTok_ac (rs : List Int) (hc1 : rs.length < 17592186044416) : AC Try.prog 187 [.row false 1 (rs.map iv), .fn 163 []] (.int .i64 (gidx (fun x => !(tok x)) rs)) := by
 have e_isStream1 := e_isStream1
 refine AC.of tab_ok Try.func187 rfl (Nat.le_of_ble_eq_true rfl) fun w0 S0 => ?_
 change G _ _ ⟨[(0, .row false 1 (rs.map iv)), (1, .fn 163 [])], [], 19⟩
 apply G.seq
 refine G.rg tab_ok ok_indexTok (hk := ?_)
 apply G.seq
 apply G.seq
 refine G.rg tab_ok ok_indexTok (hk := ?_)
 apply G.block
 refine G.cn [0, 1, 7, 8] [] (h := ?_)
 refine G.loopX (fun j : Nat => ⟨[(0, .row false 1 (rs.map iv)), (1, .fn 163 []), (7, .int .i64 rs.length), (8, .int .i64 j)], [], 19⟩) (fun j => j ≤ rs.length ∧ ∀ k < j, (fun x => !(tok x)) (rs.getD k default) = false) (fun j => rs.length - j) (0) (⟨Nat.zero_le _, by omega⟩) (rfl) ?_
 intro j hj J hJ
 obtain ⟨hj, hall⟩ := hj
 have hw : IntKind.i64.wrap ((j : Int) + 1) = (j : Int) + 1 := wrap64 (by omega) (by omega)
 apply G.seq
 refine G.rg tab_ok ok_indexTok (hk := ?_)
 apply G.seq
 refine G.iff (h1 := fun h1 => ?_) (h2 := fun h1 => ?_)
 ·try simp only [zqz] at h1
  apply G.skip
  apply G.seq
  apply G.block
  apply G.seq
  refine G.rg tab_ok ok_indexTok (hk := ?_)
  apply G.seq
  refine G.rg tab_ok ok_indexTok (hk := ?_)
  refine G.fg [0, 1, 5, 7, 8, 16] (hk := ?_)
  refine G.iff (h1 := fun h2 => ?_) (h2 := fun h2 => ?_)
  ·try simp only [zqz] at h2
   apply G.seq
   refine G.rg tab_ok ok_indexTok (hk := ?_)
   refine G.fin tab_ok (hr := ?_)
   simp only [oneOrTup]
   congr 1
   exact (gidx_some (p := fun x => !(tok x)) h1 hall (by simp only [Bool.not_eq_true']; exact h2)).symm
  ·try simp only [zqz] at h2
   apply G.skip
   apply G.blk
   refine G.rg tab_ok ok_indexTok (hk := ?_)
   refine G.cn [0, 1, 7, 8] [] (h := ?_)
   exact G.upto (hJ (j + 1) ⟨by omega, gupto (p := fun x => !(tok x)) hall (by simp only [Bool.not_eq_false']; exact h2)⟩ (by omega)) (by simp)
 ·try simp only [zqz] at h1
  refine G.exit rfl ?_
  apply G.seq
  refine G.rg tab_ok ok_indexTok (hk := ?_)
  refine G.fin tab_ok (hr := ?_)
  simp only [oneOrTup]
  congr 1
  exact (gidx_none (fun k hk => hall k (by omega))).symm
def r_indexTok (xs0 : List A) (rr : A) : Prop := ∃ (rs : List Int), (rs.length < 17592186044416) ∧ xs0 = [.row false 1 (rs.map iv), .fn 163 []] ∧ rr = .int .i64 (gidx (fun x => !(tok x)) rs)
noncomputable def q_indexTok : List A → Option A := kgr r_indexTok
theorem k_indexTok : KOk Try.prog (187, q_indexTok) := kgr_ok (enters_of Try.func187 rfl rfl) (by rintro xs0 rr ⟨rs, hc1, rfl, rfl⟩; exact indexTok_ac rs hc1)
theorem e_indexTok : ∀ (rs : List Int), (rs.length < 17592186044416) → q_indexTok [.row false 1 (rs.map iv), .fn 163 []] = some (.int .i64 (gidx (fun x => !(tok x)) rs)) := by
 intro rs hc1
 refine kgr_eq (fun xs0 rr r2 h h2 => ?_) ⟨rs, hc1, rfl, rfl⟩
 obtain ⟨rs1, _, e1, rfl⟩ := h; obtain ⟨rs2, _, e2, rfl⟩ := h2
 rw [e1] at e2
 simp only [List.cons.injEq, A.int.injEq, A.bool.injEq, A.agg.injEq, A.row.injEq, A.fn.injEq, A.rp.injEq, insv_inj, iv_inj, true_and, and_true] at e2
 simp [e2]
theorem ok_containsTok : Kn.ok Try.prog (kof [(187, q_indexTok)]) := kof_cons k_indexTok ((kof_nil _))
theorem containsTok_ac (rs : List Int) (hc1 : rs.length < 17592186044416) : AC Try.prog 162 [.row false 1 (rs.map iv), .fn 163 []] (.bool (!(rs.all tok))) := by
 have e_indexTok := e_indexTok
 refine AC.of tab_ok Try.func162 rfl (Nat.le_of_ble_eq_true rfl) fun w0 S0 => ?_
 change G _ _ ⟨[(0, .row false 1 (rs.map iv)), (1, .fn 163 [])], [], 9⟩
 apply G.seq
 refine G.rg tab_ok ok_containsTok (hk := ?_)
 apply G.seq
 refine G.rg tab_ok ok_containsTok (hk := ?_)
 refine G.fin tab_ok (hr := ?_)
 simp only [oneOrTup]
 congr 1
 exact gidx_pos _ _
def r_containsTok (xs0 : List A) (rr : A) : Prop := ∃ (rs : List Int), (rs.length < 17592186044416) ∧ xs0 = [.row false 1 (rs.map iv), .fn 163 []] ∧ rr = .bool (!(rs.all tok))
noncomputable def q_containsTok : List A → Option A := kgr r_containsTok
theorem k_containsTok : KOk Try.prog (162, q_containsTok) := kgr_ok (enters_of Try.func162 rfl rfl) (by rintro xs0 rr ⟨rs, hc1, rfl, rfl⟩; exact containsTok_ac rs hc1)
theorem e_containsTok : ∀ (rs : List Int), (rs.length < 17592186044416) → q_containsTok [.row false 1 (rs.map iv), .fn 163 []] = some (.bool (!(rs.all tok))) := by
 intro rs hc1
 refine kgr_eq (fun xs0 rr r2 h h2 => ?_) ⟨rs, hc1, rfl, rfl⟩
 obtain ⟨rs1, _, e1, rfl⟩ := h; obtain ⟨rs2, _, e2, rfl⟩ := h2
 rw [e1] at e2
 simp only [List.cons.injEq, A.int.injEq, A.bool.injEq, A.agg.injEq, A.row.injEq, A.fn.injEq, A.rp.injEq, insv_inj, iv_inj, true_and, and_true] at e2
 simp [e2]
theorem ok_implIsStream : Kn.ok Try.prog (kof [(162, q_containsTok)]) := kof_cons k_containsTok ((kof_nil _))
theorem implIsStream_ac (rs : List Int) (hc1 : rs.length < 17592186044416) : AC Try.prog 97 [.row false 1 (rs.map iv)] (.bool (strOk rs)) := by
 have e_containsTok := e_containsTok
 refine AC.of tab_ok Try.func97 rfl (Nat.le_of_ble_eq_true rfl) fun w0 S0 => ?_
 change G _ _ ⟨[(0, .row false 1 (rs.map iv))], [], 11⟩
 apply G.seq
 refine G.rg tab_ok ok_implIsStream (hk := ?_)
 apply G.seq
 refine G.rg tab_ok ok_implIsStream (hk := ?_)
 refine G.fin tab_ok (hr := ?_)
 simp only [oneOrTup]
 congr 1
 unfold strOk
 rw [Bool.not_not, Bool.and_comm]
def r_implIsStream (xs0 : List A) (rr : A) : Prop := ∃ (rs : List Int), (rs.length < 17592186044416) ∧ xs0 = [.row false 1 (rs.map iv)] ∧ rr = .bool (strOk rs)
noncomputable def q_implIsStream : List A → Option A := kgr r_implIsStream
theorem k_implIsStream : KOk Try.prog (97, q_implIsStream) := kgr_ok (enters_of Try.func97 rfl rfl) (by rintro xs0 rr ⟨rs, hc1, rfl, rfl⟩; exact implIsStream_ac rs hc1)
theorem e_implIsStream : ∀ (rs : List Int), (rs.length < 17592186044416) → q_implIsStream [.row false 1 (rs.map iv)] = some (.bool (strOk rs)) := by
 intro rs hc1
 refine kgr_eq (fun xs0 rr r2 h h2 => ?_) ⟨rs, hc1, rfl, rfl⟩
 obtain ⟨rs1, _, e1, rfl⟩ := h; obtain ⟨rs2, _, e2, rfl⟩ := h2
 rw [e1] at e2
 simp only [List.cons.injEq, A.int.injEq, A.bool.injEq, A.agg.injEq, A.row.injEq, A.fn.injEq, A.rp.injEq, insv_inj, iv_inj, true_and, and_true] at e2
 simp [e2]
theorem ok_l2Actor : Kn.ok Try.prog (kof [(73, q_l1In), (75, q_specIsStream)]) := kof_cons k_l1In (kof_cons k_specIsStream ((kof_nil _)))
theorem l2Actor_ac (i : Int) (o : Int) (l : List I4) (pc : Int) (rs : List Int) (hc1 : rs.length < 17592186044416) : AC Try.prog 74 [.agg [.int .i64 i, .int .i64 o, .row false 4 (l.map insv)], .agg [.int .i64 pc, .row false 1 (rs.map iv)]] (.bool (actOk pc l.length rs)) := by
 have e_l1In := e_l1In
 have e_specIsStream := e_specIsStream
 refine AC.of tab_ok Try.func74 rfl (Nat.le_of_ble_eq_true rfl) fun w0 S0 => ?_
 change G _ _ ⟨[(0, .agg [.int .i64 i, .int .i64 o, .row false 4 (l.map insv)]), (1, .agg [.int .i64 pc, .row false 1 (rs.map iv)])], [], 22⟩
 apply G.seq
 refine G.rg tab_ok ok_l2Actor (hk := ?_)
 apply G.seq
 refine G.rg tab_ok ok_l2Actor (hk := ?_)
 refine G.fin tab_ok (hr := ?_)
 rfl
def r_l2Actor (xs0 : List A) (rr : A) : Prop := ∃ (i : Int) (o : Int) (l : List I4) (pc : Int) (rs : List Int), (rs.length < 17592186044416) ∧ xs0 = [.agg [.int .i64 i, .int .i64 o, .row false 4 (l.map insv)], .agg [.int .i64 pc, .row false 1 (rs.map iv)]] ∧ rr = .bool (actOk pc l.length rs)
noncomputable def q_l2Actor : List A → Option A := kgr r_l2Actor
theorem k_l2Actor : KOk Try.prog (74, q_l2Actor) := kgr_ok (enters_of Try.func74 rfl rfl) (by rintro xs0 rr ⟨i, o, l, pc, rs, hc1, rfl, rfl⟩; exact l2Actor_ac i o l pc rs hc1)
theorem e_l2Actor : ∀ (i : Int) (o : Int) (l : List I4) (pc : Int) (rs : List Int), (rs.length < 17592186044416) → q_l2Actor [.agg [.int .i64 i, .int .i64 o, .row false 4 (l.map insv)], .agg [.int .i64 pc, .row false 1 (rs.map iv)]] = some (.bool (actOk pc l.length rs)) := by
 intro i o l pc rs hc1
 refine kgr_eq (fun xs0 rr r2 h h2 => ?_) ⟨i, o, l, pc, rs, hc1, rfl, rfl⟩
 obtain ⟨i1, o1, l1, pc1, rs1, _, e1, rfl⟩ := h; obtain ⟨i2, o2, l2, pc2, rs2, _, e2, rfl⟩ := h2
 rw [e1] at e2
 simp only [List.cons.injEq, A.int.injEq, A.bool.injEq, A.agg.injEq, A.row.injEq, A.fn.injEq, A.rp.injEq, insv_inj, iv_inj, true_and, and_true] at e2
 simp [e2]
theorem ok_isActor0 : Kn.ok Try.prog (kof [(97, q_implIsStream)]) := kof_cons k_implIsStream ((kof_nil _))
theorem isActor0_ac (i : Int) (o : Int) (l : List I4) (pc : Int) (rs : List Int) (hc1 : rs.length < 17592186044416) : AC Try.prog 141 [.agg [.int .i64 i, .int .i64 o, .row false 4 (l.map insv)], .agg [.int .i64 pc, .row false 1 (rs.map iv)]] (.bool (actOk pc l.length rs)) := by
 have e_implIsStream := e_implIsStream
 refine AC.of tab_ok Try.func141 rfl (Nat.le_of_ble_eq_true rfl) fun w0 S0 => ?_
 change G _ _ ⟨[(0, .agg [.int .i64 i, .int .i64 o, .row false 4 (l.map insv)]), (1, .agg [.int .i64 pc, .row false 1 (rs.map iv)])], [], 27⟩
 apply G.seq
 refine G.rg tab_ok ok_isActor0 (hk := ?_)
 apply G.seq
 refine G.rg tab_ok ok_isActor0 (hk := ?_)
 refine G.fin tab_ok (hr := ?_)
 rfl
def r_isActor0 (xs0 : List A) (rr : A) : Prop := ∃ (i : Int) (o : Int) (l : List I4) (pc : Int) (rs : List Int), (rs.length < 17592186044416) ∧ xs0 = [.agg [.int .i64 i, .int .i64 o, .row false 4 (l.map insv)], .agg [.int .i64 pc, .row false 1 (rs.map iv)]] ∧ rr = .bool (actOk pc l.length rs)
noncomputable def q_isActor0 : List A → Option A := kgr r_isActor0
theorem k_isActor0 : KOk Try.prog (141, q_isActor0) := kgr_ok (enters_of Try.func141 rfl rfl) (by rintro xs0 rr ⟨i, o, l, pc, rs, hc1, rfl, rfl⟩; exact isActor0_ac i o l pc rs hc1)
theorem e_isActor0 : ∀ (i : Int) (o : Int) (l : List I4) (pc : Int) (rs : List Int), (rs.length < 17592186044416) → q_isActor0 [.agg [.int .i64 i, .int .i64 o, .row false 4 (l.map insv)], .agg [.int .i64 pc, .row false 1 (rs.map iv)]] = some (.bool (actOk pc l.length rs)) := by
 intro i o l pc rs hc1
 refine kgr_eq (fun xs0 rr r2 h h2 => ?_) ⟨i, o, l, pc, rs, hc1, rfl, rfl⟩
 obtain ⟨i1, o1, l1, pc1, rs1, _, e1, rfl⟩ := h; obtain ⟨i2, o2, l2, pc2, rs2, _, e2, rfl⟩ := h2
 rw [e1] at e2
 simp only [List.cons.injEq, A.int.injEq, A.bool.injEq, A.agg.injEq, A.row.injEq, A.fn.injEq, A.rp.injEq, insv_inj, iv_inj, true_and, and_true] at e2
 simp [e2]
-- not in this seat: specIsActor
end Go.Proofs.Ytimgfinlbhodhaa.Ab
namespace Go.Proofs.Ytimgfinlbhodhaa.Ab
open Go
set_option linter.unusedVariables false
set_option linter.unusedSimpArgs false
set_option maxHeartbeats 4000000
def wantK (l : List I4) (pc : Int) : Int × Int := if pc = l.length then (0, 0) else if (l.getD pc.toNat default).1 = 11 then (0, 0) else if (l.getD pc.toNat default).1 = 1 then (2, (l.getD pc.toNat default).2.2.1) else if (l.getD pc.toNat default).1 = 2 then (3, (l.getD pc.toNat default).2.2.1) else (1, 0)
theorem act_pc {pc n : Int} {rs : List Int} (h : actOk pc n rs = true) : 0 ≤ pc ∧ pc ≤ n := by
 simp only [actOk, inR, Bool.and_eq_true, decide_eq_true_eq] at h
 omega
theorem implWant_ac (i : Int) (o : Int) (l : List I4) (pc : Int) (rs : List Int) (hc1 : 0 ≤ pc) (hc2 : pc ≤ l.length) : AC Try.prog 100 [.agg [.int .i64 i, .int .i64 o, .row false 4 (l.map insv)], .agg [.int .i64 pc, .row false 1 (rs.map iv)]] (.tup [.int .i64 (wantK l pc).1, .int .i64 (wantK l pc).2]) := by
 refine AC.of tab_ok Try.func100 rfl (Nat.le_of_ble_eq_true rfl) fun w0 S0 => ?_
 change G _ _ ⟨[(0, .agg [.int .i64 i, .int .i64 o, .row false 4 (l.map insv)]), (1, .agg [.int .i64 pc, .row false 1 (rs.map iv)])], [], 31⟩
 apply G.seq
 refine G.rg tab_ok (kof_nil _) (hk := ?_)
 apply G.seq
 apply G.seq
 refine G.rg tab_ok (kof_nil _) (hk := ?_)
 refine G.fg [2, 3, 12, 25, 26, 29, 30] (hk := ?_)
 refine G.iff (h1 := fun h1 => ?_) (h2 := fun h1 => ?_)
 ·try simp only [zqz] at h1
  apply G.seq
  refine G.rg tab_ok (kof_nil _) (hk := ?_)
  refine G.fin tab_ok (hr := ?_)
  simp only [oneOrTup, wantK, if_true, if_false, eq_self, Int.reduceEq, *]
 ·try simp only [zqz] at h1
  apply G.skip
  apply G.seq
  apply G.seq
  have hp1 : pc < l.length := by omega
  have hp2 : pc.toNat < l.length := by omega
  refine G.rg tab_ok (kof_nil _) (hk := ?_)
  apply G.seq
  refine G.rg tab_ok (kof_nil _) (hk := ?_)
  apply G.block
  apply G.seq
  refine G.rg tab_ok (kof_nil _) (hk := ?_)
  refine G.fg [6, 20, 21, 25, 26, 29, 30] (hk := ?_)
  refine G.iff (h1 := fun h2 => ?_) (h2 := fun h2 => ?_)
  ·try simp only [zqz] at h2
   apply G.seq
   refine G.rg tab_ok (kof_nil _) (hk := ?_)
   refine G.fin tab_ok (hr := ?_)
   simp only [oneOrTup, wantK, if_true, if_false, eq_self, Int.reduceEq, *]
  ·try simp only [zqz] at h2
   apply G.seq
   refine G.rg tab_ok (kof_nil _) (hk := ?_)
   refine G.iff (h1 := fun h3 => ?_) (h2 := fun h3 => ?_)
   ·try simp only [zqz] at h3
    apply G.seq
    refine G.dr mixed tab_ok (kof_nil _) [0, 1, 2, 3] (hk := ?_)
    refine G.fin tab_ok (hr := ?_)
    simp only [oneOrTup, wantK, if_true, if_false, eq_self, Int.reduceEq, *]
   ·try simp only [zqz] at h3
    apply G.seq
    refine G.rg tab_ok (kof_nil _) (hk := ?_)
    refine G.iff (h1 := fun h4 => ?_) (h2 := fun h4 => ?_)
    ·try simp only [zqz] at h4
     apply G.seq
     refine G.dr mixed tab_ok (kof_nil _) [0, 1, 2, 3] (hk := ?_)
     refine G.fin tab_ok (hr := ?_)
     simp only [oneOrTup, wantK, if_true, if_false, eq_self, Int.reduceEq, *]
    ·try simp only [zqz] at h4
     apply G.skip
     apply G.blk
     apply G.seq
     refine G.rg tab_ok (kof_nil _) (hk := ?_)
     refine G.fin tab_ok (hr := ?_)
     simp only [oneOrTup, wantK, if_true, if_false, eq_self, Int.reduceEq, *]
def r_implWant (xs0 : List A) (rr : A) : Prop := ∃ (i : Int) (o : Int) (l : List I4) (pc : Int) (rs : List Int), (0 ≤ pc) ∧ (pc ≤ l.length) ∧ xs0 = [.agg [.int .i64 i, .int .i64 o, .row false 4 (l.map insv)], .agg [.int .i64 pc, .row false 1 (rs.map iv)]] ∧ rr = .tup [.int .i64 (wantK l pc).1, .int .i64 (wantK l pc).2]
noncomputable def q_implWant : List A → Option A := kgr r_implWant
theorem k_implWant : KOk Try.prog (100, q_implWant) := kgr_ok (enters_of Try.func100 rfl rfl) (by rintro xs0 rr ⟨i, o, l, pc, rs, hc1, hc2, rfl, rfl⟩; exact implWant_ac i o l pc rs hc1 hc2)
theorem e_implWant : ∀ (i : Int) (o : Int) (l : List I4) (pc : Int) (rs : List Int), (0 ≤ pc) → (pc ≤ l.length) → q_implWant [.agg [.int .i64 i, .int .i64 o, .row false 4 (l.map insv)], .agg [.int .i64 pc, .row false 1 (rs.map iv)]] = some (.tup [.int .i64 (wantK l pc).1, .int .i64 (wantK l pc).2]) := by
 intro i o l pc rs hc1 hc2
 refine kgr_eq (fun xs0 rr r2 h h2 => ?_) ⟨i, o, l, pc, rs, hc1, hc2, rfl, rfl⟩
 obtain ⟨i1, o1, l1, pc1, rs1, _, _, e1, rfl⟩ := h; obtain ⟨i2, o2, l2, pc2, rs2, _, _, e2, rfl⟩ := h2
 rw [e1] at e2
 simp only [List.cons.injEq, A.int.injEq, A.bool.injEq, A.agg.injEq, A.row.injEq, A.fn.injEq, A.rp.injEq, insv_inj, iv_inj, true_and, and_true] at e2
 simp [e2]
theorem l2Want_ac (i : Int) (o : Int) (l : List I4) (pc : Int) (rs : List Int) (hc1 : 0 ≤ pc) (hc2 : pc ≤ l.length) : AC Try.prog 151 [.agg [.int .i64 i, .int .i64 o, .row false 4 (l.map insv)], .agg [.int .i64 pc, .row false 1 (rs.map iv)]] (.tup [.int .i64 (wantK l pc).1, .int .i64 (wantK l pc).2]) := by
 refine AC.of tab_ok Try.func151 rfl (Nat.le_of_ble_eq_true rfl) fun w0 S0 => ?_
 change G _ _ ⟨[(0, .agg [.int .i64 i, .int .i64 o, .row false 4 (l.map insv)]), (1, .agg [.int .i64 pc, .row false 1 (rs.map iv)])], [], 31⟩
 apply G.seq
 refine G.rg tab_ok (kof_nil _) (hk := ?_)
 apply G.seq
 apply G.seq
 refine G.rg tab_ok (kof_nil _) (hk := ?_)
 refine G.fg [2, 3, 12, 25, 26, 29, 30] (hk := ?_)
 refine G.iff (h1 := fun h1 => ?_) (h2 := fun h1 => ?_)
 ·try simp only [zqz] at h1
  apply G.seq
  refine G.rg tab_ok (kof_nil _) (hk := ?_)
  refine G.fin tab_ok (hr := ?_)
  simp only [oneOrTup, wantK, if_true, if_false, eq_self, Int.reduceEq, *]
 ·try simp only [zqz] at h1
  apply G.skip
  apply G.seq
  have hp1 : pc < l.length := by omega
  have hp2 : pc.toNat < l.length := by omega
  refine G.rg tab_ok (kof_nil _) (hk := ?_)
  apply G.seq
  apply G.seq
  refine G.rg tab_ok (kof_nil _) (hk := ?_)
  apply G.block
  apply G.seq
  refine G.rg tab_ok (kof_nil _) (hk := ?_)
  refine G.fg [6, 20, 21, 25, 26, 29, 30] (hk := ?_)
  refine G.iff (h1 := fun h2 => ?_) (h2 := fun h2 => ?_)
  ·try simp only [zqz] at h2
   apply G.seq
   refine G.rg tab_ok (kof_nil _) (hk := ?_)
   refine G.fin tab_ok (hr := ?_)
   simp only [oneOrTup, wantK, if_true, if_false, eq_self, Int.reduceEq, *]
  ·try simp only [zqz] at h2
   apply G.seq
   refine G.rg tab_ok (kof_nil _) (hk := ?_)
   refine G.iff (h1 := fun h3 => ?_) (h2 := fun h3 => ?_)
   ·try simp only [zqz] at h3
    apply G.seq
    refine G.dr mixed tab_ok (kof_nil _) [0, 1, 2, 3] (hk := ?_)
    refine G.fin tab_ok (hr := ?_)
    simp only [oneOrTup, wantK, if_true, if_false, eq_self, Int.reduceEq, *]
   ·try simp only [zqz] at h3
    apply G.seq
    refine G.rg tab_ok (kof_nil _) (hk := ?_)
    refine G.iff (h1 := fun h4 => ?_) (h2 := fun h4 => ?_)
    ·try simp only [zqz] at h4
     apply G.seq
     refine G.dr mixed tab_ok (kof_nil _) [0, 1, 2, 3] (hk := ?_)
     refine G.fin tab_ok (hr := ?_)
     simp only [oneOrTup, wantK, if_true, if_false, eq_self, Int.reduceEq, *]
    ·try simp only [zqz] at h4
     apply G.skip
     apply G.blk
     apply G.seq
     refine G.rg tab_ok (kof_nil _) (hk := ?_)
     refine G.fin tab_ok (hr := ?_)
     simp only [oneOrTup, wantK, if_true, if_false, eq_self, Int.reduceEq, *]
def r_l2Want (xs0 : List A) (rr : A) : Prop := ∃ (i : Int) (o : Int) (l : List I4) (pc : Int) (rs : List Int), (0 ≤ pc) ∧ (pc ≤ l.length) ∧ xs0 = [.agg [.int .i64 i, .int .i64 o, .row false 4 (l.map insv)], .agg [.int .i64 pc, .row false 1 (rs.map iv)]] ∧ rr = .tup [.int .i64 (wantK l pc).1, .int .i64 (wantK l pc).2]
noncomputable def q_l2Want : List A → Option A := kgr r_l2Want
theorem k_l2Want : KOk Try.prog (151, q_l2Want) := kgr_ok (enters_of Try.func151 rfl rfl) (by rintro xs0 rr ⟨i, o, l, pc, rs, hc1, hc2, rfl, rfl⟩; exact l2Want_ac i o l pc rs hc1 hc2)
theorem e_l2Want : ∀ (i : Int) (o : Int) (l : List I4) (pc : Int) (rs : List Int), (0 ≤ pc) → (pc ≤ l.length) → q_l2Want [.agg [.int .i64 i, .int .i64 o, .row false 4 (l.map insv)], .agg [.int .i64 pc, .row false 1 (rs.map iv)]] = some (.tup [.int .i64 (wantK l pc).1, .int .i64 (wantK l pc).2]) := by
 intro i o l pc rs hc1 hc2
 refine kgr_eq (fun xs0 rr r2 h h2 => ?_) ⟨i, o, l, pc, rs, hc1, hc2, rfl, rfl⟩
 obtain ⟨i1, o1, l1, pc1, rs1, _, _, e1, rfl⟩ := h; obtain ⟨i2, o2, l2, pc2, rs2, _, _, e2, rfl⟩ := h2
 rw [e1] at e2
 simp only [List.cons.injEq, A.int.injEq, A.bool.injEq, A.agg.injEq, A.row.injEq, A.fn.injEq, A.rp.injEq, insv_inj, iv_inj, true_and, and_true] at e2
 simp [e2]
theorem ok_specSample : Kn.ok Try.prog (kof [(156, q_l2Make)]) := kof_cons k_l2Make ((kof_nil _))
def sampleP (s : ByteArray) : Int × Int × List I4 := if s.toList = (ByteArray.mk #[116, 104, 114, 111, 117, 103, 104]).toList then (1, 1, [(1, 0, 0, 0), (2, 0, 0, 0), (8, 0, 0, 0)]) else if s.toList = (ByteArray.mk #[99, 111, 112, 121]).toList then (1, 2, [(1, 0, 0, 0), (2, 0, 0, 0), (2, 0, 1, 0), (8, 0, 0, 0)]) else if s.toList = (ByteArray.mk #[115, 105, 110, 107]).toList then (1, 0, [(1, 0, 0, 0), (8, 0, 0, 0)]) else if s.toList = (ByteArray.mk #[97, 100, 100]).toList then (2, 1, [(1, 0, 0, 0), (1, 1, 1, 0), (4, 0, 0, 1), (2, 0, 0, 0), (8, 0, 0, 0)]) else if s.toList = (ByteArray.mk #[97, 108, 116, 101, 114, 110, 97, 116, 101]).toList then (2, 1, [(1, 0, 0, 0), (2, 0, 0, 0), (1, 0, 1, 0), (2, 0, 0, 0), (8, 0, 0, 0)]) else if s.toList = (ByteArray.mk #[115, 112, 108, 105, 116]).toList then (1, 2, [(1, 0, 0, 0), (2, 0, 0, 0), (1, 0, 0, 0), (2, 0, 1, 0), (8, 0, 0, 0)]) else if s.toList = (ByteArray.mk #[115, 117, 109, 115]).toList then (1, 1, [(1, 1, 0, 0), (4, 0, 0, 1), (2, 0, 0, 0), (8, 0, 0, 0)]) else if s.toList = (ByteArray.mk #[115, 116, 101, 112, 115]).toList then (1, 1, [(1, 1, 0, 0), (5, 2, 1, 0), (2, 2, 0, 0), (3, 3, 0, 0), (4, 0, 1, 3), (8, 0, 0, 0)]) else if s.toList = (ByteArray.mk #[116, 119, 105, 99, 101]).toList then (1, 1, [(1, 0, 0, 0), (2, 0, 0, 0), (2, 0, 0, 0), (8, 0, 0, 0)]) else if s.toList = (ByteArray.mk #[99, 111, 117, 110, 116]).toList then (0, 1, [(2, 0, 0, 0), (3, 1, 1, 0), (4, 0, 0, 1), (8, 0, 0, 0)]) else if s.toList = (ByteArray.mk #[112, 105, 99, 107]).toList then (3, 1, [(1, 0, 0, 0), (9, 0, 4, 0), (1, 1, 2, 0), (8, 0, 5, 0), (1, 1, 1, 0), (2, 1, 0, 0), (8, 0, 0, 0)]) else (0, 0, [])
theorem specSample_ac (s : ByteArray)  : AC Try.prog 137 [.str s] (.agg [.int .i64 (sampleP s).1, .int .i64 (sampleP s).2.1, .row true 4 ((sampleP s).2.2.map insv)]) := by
 have e_l2Make := e_l2Make
 refine AC.of tab_ok Try.func137 rfl (Nat.le_of_ble_eq_true rfl) fun w0 S0 => ?_
 change G _ _ ⟨[(0, .str s)], [], 87⟩
 apply G.seq
 refine G.rg tab_ok ok_specSample (hk := ?_)
 apply G.seq
 apply G.seq
 refine G.rg tab_ok ok_specSample (hk := ?_)
 apply G.block
 apply G.seq
 refine G.rg tab_ok ok_specSample (hk := ?_)
 refine G.iff (h1 := fun h1 => ?_) (h2 := fun h1 => ?_)
 ·try simp only [zqz] at h1
  apply G.seq
  have e1 : q_l2Make [.int .i64 1, .int .i64 1, .row false 1 [[.row false 1 [[.int .i64 1]]], [.row false 1 [[.int .i64 2]]]]] = some (.agg [.int .i64 1, .int .i64 1, .row true 4 [[.int .i64 1, .int .i64 0, .int .i64 0, .int .i64 0], [.int .i64 2, .int .i64 0, .int .i64 0, .int .i64 0], [.int .i64 8, .int .i64 0, .int .i64 0, .int .i64 0]]]) := e_l2Make 1 1 [[1], [2]] (by decide) (by decide)
  refine G.rgN 3 tab_ok ok_specSample (hk := ?_)
  refine G.fb 3 (h := ?_)
  refine G.rgC tab_ok ok_specSample (hk := ?_)
  refine G.fin tab_ok (hr := ?_)
  simp only [oneOrTup]
  unfold sampleP
  rw [if_pos h1]
  rfl
 ·try simp only [zqz] at h1
  apply G.seq
  refine G.rg tab_ok ok_specSample (hk := ?_)
  refine G.iff (h1 := fun h2 => ?_) (h2 := fun h2 => ?_)
  ·try simp only [zqz] at h2
   apply G.seq
   have e1 : q_l2Make [.int .i64 1, .int .i64 2, .row false 1 [[.row false 1 [[.int .i64 1]]], [.row false 1 [[.int .i64 2]]], [.row false 1 [[.int .i64 2], [.int .i64 0], [.int .i64 1]]]]] = some (.agg [.int .i64 1, .int .i64 2, .row true 4 [[.int .i64 1, .int .i64 0, .int .i64 0, .int .i64 0], [.int .i64 2, .int .i64 0, .int .i64 0, .int .i64 0], [.int .i64 2, .int .i64 0, .int .i64 1, .int .i64 0], [.int .i64 8, .int .i64 0, .int .i64 0, .int .i64 0]]]) := e_l2Make 1 2 [[1], [2], [2, 0, 1]] (by decide) (by decide)
   refine G.rgN 4 tab_ok ok_specSample (hk := ?_)
   refine G.fb 4 (h := ?_)
   refine G.rgC tab_ok ok_specSample (hk := ?_)
   refine G.fin tab_ok (hr := ?_)
   simp only [oneOrTup]
   unfold sampleP
   rw [if_neg h1, if_pos h2]
   rfl
  ·try simp only [zqz] at h2
   apply G.seq
   refine G.rg tab_ok ok_specSample (hk := ?_)
   refine G.iff (h1 := fun h3 => ?_) (h2 := fun h3 => ?_)
   ·try simp only [zqz] at h3
    apply G.seq
    have e1 : q_l2Make [.int .i64 1, .int .i64 0, .row false 1 [[.row false 1 [[.int .i64 1]]]]] = some (.agg [.int .i64 1, .int .i64 0, .row true 4 [[.int .i64 1, .int .i64 0, .int .i64 0, .int .i64 0], [.int .i64 8, .int .i64 0, .int .i64 0, .int .i64 0]]]) := e_l2Make 1 0 [[1]] (by decide) (by decide)
    refine G.rgN 2 tab_ok ok_specSample (hk := ?_)
    refine G.fb 2 (h := ?_)
    refine G.rgC tab_ok ok_specSample (hk := ?_)
    refine G.fin tab_ok (hr := ?_)
    simp only [oneOrTup]
    unfold sampleP
    rw [if_neg h1, if_neg h2, if_pos h3]
    rfl
   ·try simp only [zqz] at h3
    apply G.seq
    refine G.rg tab_ok ok_specSample (hk := ?_)
    refine G.fg [2, 3, 22] (hk := ?_)
    refine G.iff (h1 := fun h4 => ?_) (h2 := fun h4 => ?_)
    ·try simp only [zqz] at h4
     apply G.seq
     have e1 : q_l2Make [.int .i64 2, .int .i64 1, .row false 1 [[.row false 1 [[.int .i64 1]]], [.row false 1 [[.int .i64 1], [.int .i64 1], [.int .i64 1]]], [.row false 1 [[.int .i64 4], [.int .i64 0], [.int .i64 0], [.int .i64 1]]], [.row false 1 [[.int .i64 2]]]]] = some (.agg [.int .i64 2, .int .i64 1, .row true 4 [[.int .i64 1, .int .i64 0, .int .i64 0, .int .i64 0], [.int .i64 1, .int .i64 1, .int .i64 1, .int .i64 0], [.int .i64 4, .int .i64 0, .int .i64 0, .int .i64 1], [.int .i64 2, .int .i64 0, .int .i64 0, .int .i64 0], [.int .i64 8, .int .i64 0, .int .i64 0, .int .i64 0]]]) := e_l2Make 2 1 [[1], [1, 1, 1], [4, 0, 0, 1], [2]] (by decide) (by decide)
     refine G.rgN 5 tab_ok ok_specSample (hk := ?_)
     refine G.fb 5 (h := ?_)
     refine G.rgC tab_ok ok_specSample (hk := ?_)
     refine G.fin tab_ok (hr := ?_)
     simp only [oneOrTup]
     unfold sampleP
     rw [if_neg h1, if_neg h2, if_neg h3, if_pos h4]
     rfl
    ·try simp only [zqz] at h4
     apply G.seq
     refine G.rg tab_ok ok_specSample (hk := ?_)
     refine G.iff (h1 := fun h5 => ?_) (h2 := fun h5 => ?_)
     ·try simp only [zqz] at h5
      apply G.seq
      have e1 : q_l2Make [.int .i64 2, .int .i64 1, .row false 1 [[.row false 1 [[.int .i64 1]]], [.row false 1 [[.int .i64 2]]], [.row false 1 [[.int .i64 1], [.int .i64 0], [.int .i64 1]]], [.row false 1 [[.int .i64 2]]]]] = some (.agg [.int .i64 2, .int .i64 1, .row true 4 [[.int .i64 1, .int .i64 0, .int .i64 0, .int .i64 0], [.int .i64 2, .int .i64 0, .int .i64 0, .int .i64 0], [.int .i64 1, .int .i64 0, .int .i64 1, .int .i64 0], [.int .i64 2, .int .i64 0, .int .i64 0, .int .i64 0], [.int .i64 8, .int .i64 0, .int .i64 0, .int .i64 0]]]) := e_l2Make 2 1 [[1], [2], [1, 0, 1], [2]] (by decide) (by decide)
      refine G.rgN 5 tab_ok ok_specSample (hk := ?_)
      refine G.fb 5 (h := ?_)
      refine G.rgC tab_ok ok_specSample (hk := ?_)
      refine G.fin tab_ok (hr := ?_)
      simp only [oneOrTup]
      unfold sampleP
      rw [if_neg h1, if_neg h2, if_neg h3, if_neg h4, if_pos h5]
      rfl
     ·try simp only [zqz] at h5
      apply G.seq
      refine G.rg tab_ok ok_specSample (hk := ?_)
      refine G.iff (h1 := fun h6 => ?_) (h2 := fun h6 => ?_)
      ·try simp only [zqz] at h6
       apply G.seq
       have e1 : q_l2Make [.int .i64 1, .int .i64 2, .row false 1 [[.row false 1 [[.int .i64 1]]], [.row false 1 [[.int .i64 2]]], [.row false 1 [[.int .i64 1]]], [.row false 1 [[.int .i64 2], [.int .i64 0], [.int .i64 1]]]]] = some (.agg [.int .i64 1, .int .i64 2, .row true 4 [[.int .i64 1, .int .i64 0, .int .i64 0, .int .i64 0], [.int .i64 2, .int .i64 0, .int .i64 0, .int .i64 0], [.int .i64 1, .int .i64 0, .int .i64 0, .int .i64 0], [.int .i64 2, .int .i64 0, .int .i64 1, .int .i64 0], [.int .i64 8, .int .i64 0, .int .i64 0, .int .i64 0]]]) := e_l2Make 1 2 [[1], [2], [1], [2, 0, 1]] (by decide) (by decide)
       refine G.rgN 5 tab_ok ok_specSample (hk := ?_)
       refine G.fb 5 (h := ?_)
       refine G.rgC tab_ok ok_specSample (hk := ?_)
       refine G.fin tab_ok (hr := ?_)
       simp only [oneOrTup]
       unfold sampleP
       rw [if_neg h1, if_neg h2, if_neg h3, if_neg h4, if_neg h5, if_pos h6]
       rfl
      ·try simp only [zqz] at h6
       apply G.seq
       refine G.rg tab_ok ok_specSample (hk := ?_)
       refine G.iff (h1 := fun h7 => ?_) (h2 := fun h7 => ?_)
       ·try simp only [zqz] at h7
        apply G.seq
        have e1 : q_l2Make [.int .i64 1, .int .i64 1, .row false 1 [[.row false 1 [[.int .i64 1], [.int .i64 1]]], [.row false 1 [[.int .i64 4], [.int .i64 0], [.int .i64 0], [.int .i64 1]]], [.row false 1 [[.int .i64 2]]]]] = some (.agg [.int .i64 1, .int .i64 1, .row true 4 [[.int .i64 1, .int .i64 1, .int .i64 0, .int .i64 0], [.int .i64 4, .int .i64 0, .int .i64 0, .int .i64 1], [.int .i64 2, .int .i64 0, .int .i64 0, .int .i64 0], [.int .i64 8, .int .i64 0, .int .i64 0, .int .i64 0]]]) := e_l2Make 1 1 [[1, 1], [4, 0, 0, 1], [2]] (by decide) (by decide)
        refine G.rgN 4 tab_ok ok_specSample (hk := ?_)
        refine G.fb 4 (h := ?_)
        refine G.rgC tab_ok ok_specSample (hk := ?_)
        refine G.fin tab_ok (hr := ?_)
        simp only [oneOrTup]
        unfold sampleP
        rw [if_neg h1, if_neg h2, if_neg h3, if_neg h4, if_neg h5, if_neg h6, if_pos h7]
        rfl
       ·try simp only [zqz] at h7
        apply G.seq
        refine G.rg tab_ok ok_specSample (hk := ?_)
        refine G.iff (h1 := fun h8 => ?_) (h2 := fun h8 => ?_)
        ·try simp only [zqz] at h8
         apply G.seq
         have e1 : q_l2Make [.int .i64 1, .int .i64 1, .row false 1 [[.row false 1 [[.int .i64 1], [.int .i64 1]]], [.row false 1 [[.int .i64 5], [.int .i64 2], [.int .i64 1], [.int .i64 0]]], [.row false 1 [[.int .i64 2], [.int .i64 2]]], [.row false 1 [[.int .i64 3], [.int .i64 3]]], [.row false 1 [[.int .i64 4], [.int .i64 0], [.int .i64 1], [.int .i64 3]]]]] = some (.agg [.int .i64 1, .int .i64 1, .row true 4 [[.int .i64 1, .int .i64 1, .int .i64 0, .int .i64 0], [.int .i64 5, .int .i64 2, .int .i64 1, .int .i64 0], [.int .i64 2, .int .i64 2, .int .i64 0, .int .i64 0], [.int .i64 3, .int .i64 3, .int .i64 0, .int .i64 0], [.int .i64 4, .int .i64 0, .int .i64 1, .int .i64 3], [.int .i64 8, .int .i64 0, .int .i64 0, .int .i64 0]]]) := e_l2Make 1 1 [[1, 1], [5, 2, 1, 0], [2, 2], [3, 3], [4, 0, 1, 3]] (by decide) (by decide)
         refine G.rgN 6 tab_ok ok_specSample (hk := ?_)
         refine G.fb 6 (h := ?_)
         refine G.rgC tab_ok ok_specSample (hk := ?_)
         refine G.fin tab_ok (hr := ?_)
         simp only [oneOrTup]
         unfold sampleP
         rw [if_neg h1, if_neg h2, if_neg h3, if_neg h4, if_neg h5, if_neg h6, if_neg h7, if_pos h8]
         rfl
        ·try simp only [zqz] at h8
         apply G.seq
         refine G.rg tab_ok ok_specSample (hk := ?_)
         refine G.fg [2, 3, 62] (hk := ?_)
         refine G.iff (h1 := fun h9 => ?_) (h2 := fun h9 => ?_)
         ·try simp only [zqz] at h9
          apply G.seq
          have e1 : q_l2Make [.int .i64 1, .int .i64 1, .row false 1 [[.row false 1 [[.int .i64 1]]], [.row false 1 [[.int .i64 2]]], [.row false 1 [[.int .i64 2]]]]] = some (.agg [.int .i64 1, .int .i64 1, .row true 4 [[.int .i64 1, .int .i64 0, .int .i64 0, .int .i64 0], [.int .i64 2, .int .i64 0, .int .i64 0, .int .i64 0], [.int .i64 2, .int .i64 0, .int .i64 0, .int .i64 0], [.int .i64 8, .int .i64 0, .int .i64 0, .int .i64 0]]]) := e_l2Make 1 1 [[1], [2], [2]] (by decide) (by decide)
          refine G.rgN 4 tab_ok ok_specSample (hk := ?_)
          refine G.fb 4 (h := ?_)
          refine G.rgC tab_ok ok_specSample (hk := ?_)
          refine G.fin tab_ok (hr := ?_)
          simp only [oneOrTup]
          unfold sampleP
          rw [if_neg h1, if_neg h2, if_neg h3, if_neg h4, if_neg h5, if_neg h6, if_neg h7, if_neg h8, if_pos h9]
          rfl
         ·try simp only [zqz] at h9
          apply G.seq
          refine G.rg tab_ok ok_specSample (hk := ?_)
          refine G.iff (h1 := fun h10 => ?_) (h2 := fun h10 => ?_)
          ·try simp only [zqz] at h10
           apply G.seq
           have e1 : q_l2Make [.int .i64 0, .int .i64 1, .row false 1 [[.row false 1 [[.int .i64 2]]], [.row false 1 [[.int .i64 3], [.int .i64 1], [.int .i64 1]]], [.row false 1 [[.int .i64 4], [.int .i64 0], [.int .i64 0], [.int .i64 1]]]]] = some (.agg [.int .i64 0, .int .i64 1, .row true 4 [[.int .i64 2, .int .i64 0, .int .i64 0, .int .i64 0], [.int .i64 3, .int .i64 1, .int .i64 1, .int .i64 0], [.int .i64 4, .int .i64 0, .int .i64 0, .int .i64 1], [.int .i64 8, .int .i64 0, .int .i64 0, .int .i64 0]]]) := e_l2Make 0 1 [[2], [3, 1, 1], [4, 0, 0, 1]] (by decide) (by decide)
           refine G.rgN 4 tab_ok ok_specSample (hk := ?_)
           refine G.fb 4 (h := ?_)
           refine G.rgC tab_ok ok_specSample (hk := ?_)
           refine G.fin tab_ok (hr := ?_)
           simp only [oneOrTup]
           unfold sampleP
           rw [if_neg h1, if_neg h2, if_neg h3, if_neg h4, if_neg h5, if_neg h6, if_neg h7, if_neg h8, if_neg h9, if_pos h10]
           rfl
          ·try simp only [zqz] at h10
           apply G.seq
           refine G.rg tab_ok ok_specSample (hk := ?_)
           refine G.iff (h1 := fun h11 => ?_) (h2 := fun h11 => ?_)
           ·try simp only [zqz] at h11
            apply G.seq
            have e1 : q_l2Make [.int .i64 3, .int .i64 1, .row false 1 [[.row false 1 [[.int .i64 1]]], [.row false 1 [[.int .i64 9], [.int .i64 0], [.int .i64 4]]], [.row false 1 [[.int .i64 1], [.int .i64 1], [.int .i64 2]]], [.row false 1 [[.int .i64 8], [.int .i64 0], [.int .i64 5]]], [.row false 1 [[.int .i64 1], [.int .i64 1], [.int .i64 1]]], [.row false 1 [[.int .i64 2], [.int .i64 1]]]]] = some (.agg [.int .i64 3, .int .i64 1, .row true 4 [[.int .i64 1, .int .i64 0, .int .i64 0, .int .i64 0], [.int .i64 9, .int .i64 0, .int .i64 4, .int .i64 0], [.int .i64 1, .int .i64 1, .int .i64 2, .int .i64 0], [.int .i64 8, .int .i64 0, .int .i64 5, .int .i64 0], [.int .i64 1, .int .i64 1, .int .i64 1, .int .i64 0], [.int .i64 2, .int .i64 1, .int .i64 0, .int .i64 0], [.int .i64 8, .int .i64 0, .int .i64 0, .int .i64 0]]]) := e_l2Make 3 1 [[1], [9, 0, 4], [1, 1, 2], [8, 0, 5], [1, 1, 1], [2, 1]] (by decide) (by decide)
            refine G.rgN 7 tab_ok ok_specSample (hk := ?_)
            refine G.fb 7 (h := ?_)
            refine G.rgC tab_ok ok_specSample (hk := ?_)
            refine G.fin tab_ok (hr := ?_)
            simp only [oneOrTup]
            unfold sampleP
            rw [if_neg h1, if_neg h2, if_neg h3, if_neg h4, if_neg h5, if_neg h6, if_neg h7, if_neg h8, if_neg h9, if_neg h10, if_pos h11]
            rfl
           ·try simp only [zqz] at h11
            apply G.skip
            apply G.blk
            apply G.seq
            refine G.rg tab_ok ok_specSample (hk := ?_)
            refine G.focusNil 0 0 2 4 rfl rfl rfl ?_
            refine G.fin tab_ok (hr := ?_)
            simp only [oneOrTup]
            unfold sampleP
            rw [if_neg h1, if_neg h2, if_neg h3, if_neg h4, if_neg h5, if_neg h6, if_neg h7, if_neg h8, if_neg h9, if_neg h10, if_neg h11]
            rfl
def r_specSample (xs0 : List A) (rr : A) : Prop := ∃ (s : ByteArray), xs0 = [.str s] ∧ rr = .agg [.int .i64 (sampleP s).1, .int .i64 (sampleP s).2.1, .row true 4 ((sampleP s).2.2.map insv)]
noncomputable def q_specSample : List A → Option A := kgr r_specSample
theorem k_specSample : KOk Try.prog (137, q_specSample) := kgr_ok (enters_of Try.func137 rfl rfl) (by rintro xs0 rr ⟨s, rfl, rfl⟩; exact specSample_ac s)
theorem e_specSample : ∀ (s : ByteArray), q_specSample [.str s] = some (.agg [.int .i64 (sampleP s).1, .int .i64 (sampleP s).2.1, .row true 4 ((sampleP s).2.2.map insv)]) := by
 intro s
 refine kgr_eq (fun xs0 rr r2 h h2 => ?_) ⟨s, rfl, rfl⟩
 obtain ⟨s1, e1, rfl⟩ := h; obtain ⟨s2, e2, rfl⟩ := h2
 rw [e1] at e2
 simp only [List.cons.injEq, A.str.injEq, and_true] at e2
 simp [e2]
end Go.Proofs.Ytimgfinlbhodhaa.Ab
