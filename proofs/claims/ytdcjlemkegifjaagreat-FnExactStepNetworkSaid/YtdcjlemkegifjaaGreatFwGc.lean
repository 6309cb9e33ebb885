/- Walks of functions of the program, and the plain definitions. -/
import Derived.Test.YtdcjlemkegifjaaGreatFwGb
namespace Go.Proofs.YtdcjlemkegifjaaGreat.Ab
open Go
set_option linter.unusedVariables false
set_option linter.unusedSimpArgs false
set_option maxHeartbeats 4000000
theorem l1Copy_ac (rs : List Int) (hc1 : rs.length ≤ 1048576) : AC Tryz.prog 48 [.row false 1 (rs.map iv)] (.row true 1 (rs.map iv)) := by
 have hb1 : ((0 + rs.length : Nat) : Int) ≤ 4611686018427387904 := by omega
 have hb2 : (0 + rs.length) * 8 ≤ 70368744177664 := by omega
 have hb3 : (rs.length : Int) ≤ 4611686018427387904 := by omega
 have hb4 : rs.length * 8 ≤ 70368744177664 := by omega
 refine AC.of tab_ok Tryz.func48 rfl (Nat.le_of_ble_eq_true rfl) fun w0 S0 => ?_
 change G _ _ ⟨[(0, .row false 1 (rs.map iv))], [], 6⟩
 apply G.seq
 refine G.rg tab_ok (kof_nil _) (hk := ?_)
 apply G.seq
 refine G.rg tab_ok (kof_nil _) (hk := ?_)
 refine G.fin tab_ok (hr := ?_)
 rfl
def r_l1Copy (xs0 : List A) (rr : A) : Prop := ∃ (rs : List Int), (rs.length ≤ 1048576) ∧ xs0 = [.row false 1 (rs.map iv)] ∧ rr = .row true 1 (rs.map iv)
noncomputable def q_l1Copy : List A → Option A := kgr r_l1Copy
theorem k_l1Copy : KOk Tryz.prog (48, q_l1Copy) := kgr_ok (enters_of Tryz.func48 rfl rfl) (by rintro xs0 rr ⟨rs, hc1, rfl, rfl⟩; exact l1Copy_ac rs hc1)
theorem e_l1Copy : ∀ (rs : List Int), (rs.length ≤ 1048576) → q_l1Copy [.row false 1 (rs.map iv)] = some (.row true 1 (rs.map iv)) := by
 intro rs hc1
 refine kgr_eq (fun xs0 rr r2 h h2 => ?_) ⟨rs, hc1, rfl, rfl⟩
 obtain ⟨rs1, _, e1, rfl⟩ := h; obtain ⟨rs2, _, e2, rfl⟩ := h2
 rw [e1] at e2
 simp only [List.cons.injEq, A.int.injEq, A.bool.injEq, A.agg.injEq, A.row.injEq, A.fn.injEq, A.rp.injEq, insv_inj, iv_inj, true_and, and_true] at e2
 simp [e2]
-- not in this seat: l2Make
def ivL (x : List Int) : List A := [.row false 1 (x.map iv)]
theorem ivL_eq (x : List Int) : ivL x = [.row false 1 (x.map iv)] := rfl
theorem pureLL_ivL (l : List (List Int)) : pureLL (l.map ivL) = true := pureLL_all (fun _ => rfl) l
theorem ivL_inj {l l' : List (List Int)} : l.map ivL = l'.map ivL ↔ l = l' := ⟨map_inj (fun x y h => by simpa [ivL, iv_inj] using h), fun h => by rw [h]⟩
def strOk (xs : List Int) : Bool := xs.all tok && decide ((xs.length : Int) ≤ 400)
def actOk (pc n : Int) (rs : List Int) : Bool := inR pc 0 n && ((rs.length : Int) == 4) && strOk rs
section
variable {α : Type}
def gidx (p : α → Bool) (l : List α) : Int := match l.findIdx? p with
 | some i => i
 | none => -1
theorem gidx_pos (p : α → Bool) (l : List α) : decide (gidx (fun x => !(p x)) l ≥ 0) = !(l.all p) := by
 rw [Bool.eq_iff_iff]
 unfold gidx
 cases h : l.findIdx? (fun x => !(p x)) with
 | none =>
  rw [List.findIdx?_eq_none_iff] at h
  have : l.all p = true := by rw [List.all_eq_true]; intro x hx; simpa using h x hx
  simp [this]
 | some j =>
  rw [List.findIdx?_eq_some_iff_getElem] at h
  obtain ⟨h1, h2, _⟩ := h
  have : l.all p = false := by rw [List.all_eq_false]; exact ⟨l[j], List.getElem_mem h1, by simpa using h2⟩
  simp [this]
variable [Inhabited α]
theorem gidx_some {p : α → Bool} {l : List α} {j : Nat} (hj : j < l.length) (hall : ∀ k < j, p (l.getD k default) = false) (h : p (l.getD j default) = true) : gidx p l = j := by
 have : l.findIdx? p = some j := by
  rw [List.findIdx?_eq_some_iff_getElem]
  refine ⟨hj, by simpa [hj] using h, fun k hk => ?_⟩
  have hk2 : k < l.length := by omega
  simpa [hk2] using hall k hk
 unfold gidx
 rw [this]
theorem gidx_none {p : α → Bool} {l : List α} (hall : ∀ k < l.length, p (l.getD k default) = false) : gidx p l = -1 := by
 have : l.findIdx? p = none := by
  rw [List.findIdx?_eq_none_iff]
  intro x hx
  obtain ⟨k, hk, rfl⟩ := List.getElem_of_mem hx
  simpa [hk] using hall k hk
 unfold gidx
 rw [this]
theorem gupto {l : List α} {p : α → Bool} {b : Bool} {i : Nat} (h : ∀ j < i, p (l.getD j default) = b) (h2 : p (l.getD i default) = b) : ∀ j < i + 1, p (l.getD j default) = b := by
 intro j hj
 by_cases e : j = i
 ·rw [e]; exact h2
 ·exact h j (by omega)
theorem gall {l : List α} {p : α → Bool} (h : ∀ j < l.length, p (l.getD j default) = true) : l.all p = true := by
 rw [List.all_eq_true]
 intro x hx
 obtain ⟨j, hj, rfl⟩ := List.getElem_of_mem hx
 simpa [hj] using h j hj
theorem gnot {l : List α} {p : α → Bool} {j : Nat} (hj : j < l.length) (h : p (l.getD j default) = false) : l.all p = false := by
 rw [List.all_eq_false]
 refine ⟨l[j], List.getElem_mem hj, ?_⟩
 simpa [hj] using h
theorem geq_upto {l m : List α} {i : Nat} (h : ∀ j < i, l.getD j default = m.getD j default) (h2 : l.getD i default = m.getD i default) : ∀ j < i + 1, l.getD j default = m.getD j default := by
 intro j hj
 by_cases e : j = i
 ·rw [e]; exact h2
 ·exact h j (by omega)
theorem geq_all {l m : List α} (hl : l.length = m.length) (h : ∀ j < l.length, l.getD j default = m.getD j default) : l = m := by
 apply List.ext_getElem hl
 intro j h1 h2
 have := h j h1
 simpa [h1, h2] using this
end
theorem toIntS_ac (rs : List Int) (hc1 : rs.length < 17592186044416) : AC Tryz.prog 53 [.row false 1 (rs.map iv)] (.row true 1 (rs.map iv)) := by
 have hb1 : (rs.length : Int) ≤ 4611686018427387904 := by omega
 have hb2 : 8 * (rs.length : Int) ≤ 140737488355328 := by omega
 refine AC.of tab_ok Tryz.func53 rfl (Nat.le_of_ble_eq_true rfl) fun w0 S0 => ?_
 change G _ _ ⟨[(0, .row false 1 (rs.map iv))], [], 22⟩
 apply G.seq
 refine G.rg tab_ok (kof_nil _) (hk := ?_)
 apply G.seq
 refine G.rg tab_ok (kof_nil _) (hk := ?_)
 apply G.seq
 apply G.seq
 refine G.rg tab_ok (kof_nil _) (hk := ?_)
 apply G.block
 refine G.cn [0, 3, 4] [0] (h := ?_)
 refine G.loopX (fun j : Nat => ⟨[(0, .row false 1 (rs.map iv)), (3, .sl 0 0 rs.length), (4, .int .i64 j)], [some (1, fillB iv rs [.int .i64 0] j)], 22⟩) (fun j => j ≤ rs.length) (fun j => rs.length - j) (0) (Nat.zero_le _) (by simp [fillB]) ?_
 intro j hj J hJ
 have hw : IntKind.i64.wrap ((j : Int) + 1) = (j : Int) + 1 := wrap64 (by omega) (by omega)
 have hlen := fillB_len iv [.int .i64 0] hj
 apply G.seq
 apply G.seq
 refine G.rg tab_ok (kof_nil _) (hk := ?_)
 refine G.iff (h1 := fun h1 => ?_) (h2 := fun h1 => ?_)
 ·try simp only [zqz] at h1
  apply G.skip
  apply G.seq
  apply G.block
  have hg := fillB_get iv [.int .i64 0] h1
  have hs := fillB_set iv [.int .i64 0] h1
  simp only [iv] at hs
  refine G.rg tab_ok (kof_nil _) (hk := ?_)
  apply G.blk
  refine G.rg tab_ok (kof_nil _) (hk := ?_)
  have hp := fillB_pure iv [.int .i64 0] (l := rs) (i := j + 1) (fun _ => rfl) rfl
  refine G.cn [0, 3, 4] [0] (h := ?_)
  exact G.upto (hJ (j + 1) (by omega) (by omega)) (by simp)
 ·try simp only [zqz] at h1
  refine G.exit rfl ?_
  apply G.seq
  refine G.rg tab_ok (kof_nil _) (hk := ?_)
  obtain rfl : j = rs.length := by omega
  rw [fillB_full]
  refine G.fin tab_ok (hr := ?_)
  rfl
def r_toIntS (xs0 : List A) (rr : A) : Prop := ∃ (rs : List Int), (rs.length < 17592186044416) ∧ xs0 = [.row false 1 (rs.map iv)] ∧ rr = .row true 1 (rs.map iv)
noncomputable def q_toIntS : List A → Option A := kgr r_toIntS
theorem k_toIntS : KOk Tryz.prog (53, q_toIntS) := kgr_ok (enters_of Tryz.func53 rfl rfl) (by rintro xs0 rr ⟨rs, hc1, rfl, rfl⟩; exact toIntS_ac rs hc1)
theorem e_toIntS : ∀ (rs : List Int), (rs.length < 17592186044416) → q_toIntS [.row false 1 (rs.map iv)] = some (.row true 1 (rs.map iv)) := by
 intro rs hc1
 refine kgr_eq (fun xs0 rr r2 h h2 => ?_) ⟨rs, hc1, rfl, rfl⟩
 obtain ⟨rs1, _, e1, rfl⟩ := h; obtain ⟨rs2, _, e2, rfl⟩ := h2
 rw [e1] at e2
 simp only [List.cons.injEq, A.int.injEq, A.bool.injEq, A.agg.injEq, A.row.injEq, A.fn.injEq, A.rp.injEq, insv_inj, iv_inj, true_and, and_true] at e2
 simp [e2]
theorem szIntS_ac (rs : List Int) (n : Int) (hc1 : 0 ≤ n) (hc2 : n ≤ 1048576) (hc3 : rs.length < 17592186044416) : AC Tryz.prog 42 [.row false 1 (rs.map iv), .int .i64 n] (.int .i64 (if n - rs.length < 0 then -1 else n - rs.length)) := by
 have hw : IntKind.i64.wrap (n - (rs.length : Int)) = n - rs.length := wrap64 (by omega) (by omega)
 refine AC.of tab_ok Tryz.func42 rfl (Nat.le_of_ble_eq_true rfl) fun w0 S0 => ?_
 change G _ _ ⟨[(0, .row false 1 (rs.map iv)), (1, .int .i64 n)], [], 12⟩
 apply G.seq
 refine G.rg tab_ok (kof_nil _) (hk := ?_)
 apply G.seq
 refine G.rg tab_ok (kof_nil _) (hk := ?_)
 apply G.seq
 apply G.seq
 refine G.rg tab_ok (kof_nil _) (hk := ?_)
 refine G.iff (h1 := fun h1 => ?_) (h2 := fun h1 => ?_)
 ·try simp only [zqz] at h1
  apply G.seq
  refine G.rg tab_ok (kof_nil _) (hk := ?_)
  refine G.fin tab_ok (hr := ?_)
  simp [oneOrTup]; omega
 ·try simp only [zqz] at h1
  apply G.skip
  apply G.seq
  refine G.rg tab_ok (kof_nil _) (hk := ?_)
  refine G.fin tab_ok (hr := ?_)
  simp [oneOrTup]; omega
def r_szIntS (xs0 : List A) (rr : A) : Prop := ∃ (rs : List Int) (n : Int), (0 ≤ n) ∧ (n ≤ 1048576) ∧ (rs.length < 17592186044416) ∧ xs0 = [.row false 1 (rs.map iv), .int .i64 n] ∧ rr = .int .i64 (if n - rs.length < 0 then -1 else n - rs.length)
noncomputable def q_szIntS : List A → Option A := kgr r_szIntS
theorem k_szIntS : KOk Tryz.prog (42, q_szIntS) := kgr_ok (enters_of Tryz.func42 rfl rfl) (by rintro xs0 rr ⟨rs, n, hc1, hc2, hc3, rfl, rfl⟩; exact szIntS_ac rs n hc1 hc2 hc3)
theorem e_szIntS : ∀ (rs : List Int) (n : Int), (0 ≤ n) → (n ≤ 1048576) → (rs.length < 17592186044416) → q_szIntS [.row false 1 (rs.map iv), .int .i64 n] = some (.int .i64 (if n - rs.length < 0 then -1 else n - rs.length)) := by
 intro rs n hc1 hc2 hc3
 refine kgr_eq (fun xs0 rr r2 h h2 => ?_) ⟨rs, n, hc1, hc2, hc3, rfl, rfl⟩
 obtain ⟨rs1, n1, _, _, _, e1, rfl⟩ := h; obtain ⟨rs2, n2, _, _, _, e2, rfl⟩ := h2
 rw [e1] at e2
 simp only [List.cons.injEq, A.int.injEq, A.bool.injEq, A.agg.injEq, A.row.injEq, A.fn.injEq, A.rp.injEq, insv_inj, iv_inj, true_and, and_true] at e2
 simp [e2]
theorem ok_szActor : Kn.ok Tryz.prog (kof [(42, q_szIntS)]) := kof_cons k_szIntS ((kof_nil _))
theorem szActor_ac (pc : Int) (rs : List Int) (n : Int) (hc1 : 0 ≤ n) (hc2 : n ≤ 1048576) (hc3 : rs.length < 17592186044416) : AC Tryz.prog 41 [.agg [.int .i64 pc, .row false 1 (rs.map iv)], .int .i64 n] (.int .i64 (if n - rs.length < 0 then -1 else n - rs.length)) := by
 have e_szIntS := e_szIntS
 refine AC.of tab_ok Tryz.func41 rfl (Nat.le_of_ble_eq_true rfl) fun w0 S0 => ?_
 change G _ _ ⟨[(0, .agg [.int .i64 pc, .row false 1 (rs.map iv)]), (1, .int .i64 n)], [], 12⟩
 apply G.seq
 refine G.rg tab_ok ok_szActor (hk := ?_)
 apply G.seq
 refine G.rg tab_ok ok_szActor (hk := ?_)
 apply G.seq
 apply G.seq
 refine G.rg tab_ok ok_szActor (hk := ?_)
 refine G.fg [1, 10] (hk := ?_)
 refine G.iff (h1 := fun h1 => ?_) (h2 := fun h1 => ?_)
 ·try simp only [zqz] at h1
  apply G.seq
  refine G.rg tab_ok ok_szActor (hk := ?_)
  refine G.fin tab_ok (hr := ?_)
  simp only [oneOrTup]
  congr 1
  split at h1 <;> rename_i hh <;> simp only [hh, if_true, if_false]
  omega
 ·try simp only [zqz] at h1
  apply G.skip
  apply G.seq
  refine G.rg tab_ok ok_szActor (hk := ?_)
  refine G.fin tab_ok (hr := ?_)
  rfl
def r_szActor (xs0 : List A) (rr : A) : Prop := ∃ (pc : Int) (rs : List Int) (n : Int), (0 ≤ n) ∧ (n ≤ 1048576) ∧ (rs.length < 17592186044416) ∧ xs0 = [.agg [.int .i64 pc, .row false 1 (rs.map iv)], .int .i64 n] ∧ rr = .int .i64 (if n - rs.length < 0 then -1 else n - rs.length)
noncomputable def q_szActor : List A → Option A := kgr r_szActor
theorem k_szActor : KOk Tryz.prog (41, q_szActor) := kgr_ok (enters_of Tryz.func41 rfl rfl) (by rintro xs0 rr ⟨pc, rs, n, hc1, hc2, hc3, rfl, rfl⟩; exact szActor_ac pc rs n hc1 hc2 hc3)
theorem e_szActor : ∀ (pc : Int) (rs : List Int) (n : Int), (0 ≤ n) → (n ≤ 1048576) → (rs.length < 17592186044416) → q_szActor [.agg [.int .i64 pc, .row false 1 (rs.map iv)], .int .i64 n] = some (.int .i64 (if n - rs.length < 0 then -1 else n - rs.length)) := by
 intro pc rs n hc1 hc2 hc3
 refine kgr_eq (fun xs0 rr r2 h h2 => ?_) ⟨pc, rs, n, hc1, hc2, hc3, rfl, rfl⟩
 obtain ⟨pc1, rs1, n1, _, _, _, e1, rfl⟩ := h; obtain ⟨pc2, rs2, n2, _, _, _, e2, rfl⟩ := h2
 rw [e1] at e2
 simp only [List.cons.injEq, A.int.injEq, A.bool.injEq, A.agg.injEq, A.row.injEq, A.fn.injEq, A.rp.injEq, insv_inj, iv_inj, true_and, and_true] at e2
 simp [e2]
theorem ok_toActor : Kn.ok Tryz.prog (kof [(53, q_toIntS)]) := kof_cons k_toIntS ((kof_nil _))
theorem toActor_ac (pc : Int) (rs : List Int) (hc1 : rs.length < 17592186044416) : AC Tryz.prog 52 [.agg [.int .i64 pc, .row false 1 (rs.map iv)]] (.agg [.int .i64 pc, .row true 1 (rs.map iv)]) := by
 have e_toIntS := e_toIntS
 refine AC.of tab_ok Tryz.func52 rfl (Nat.le_of_ble_eq_true rfl) fun w0 S0 => ?_
 change G _ _ ⟨[(0, .agg [.int .i64 pc, .row false 1 (rs.map iv)])], [], 12⟩
 apply G.seq
 refine G.rg tab_ok ok_toActor (hk := ?_)
 apply G.seq
 refine G.rg tab_ok ok_toActor (hk := ?_)
 apply G.seq
 refine G.rg tab_ok ok_toActor (hk := ?_)
 apply G.seq
 refine G.rg tab_ok ok_toActor (hk := ?_)
 apply G.seq
 refine G.rg tab_ok ok_toActor (hk := ?_)
 refine G.fin tab_ok (hr := ?_)
 rfl
def r_toActor (xs0 : List A) (rr : A) : Prop := ∃ (pc : Int) (rs : List Int), (rs.length < 17592186044416) ∧ xs0 = [.agg [.int .i64 pc, .row false 1 (rs.map iv)]] ∧ rr = .agg [.int .i64 pc, .row true 1 (rs.map iv)]
noncomputable def q_toActor : List A → Option A := kgr r_toActor
theorem k_toActor : KOk Tryz.prog (52, q_toActor) := kgr_ok (enters_of Tryz.func52 rfl rfl) (by rintro xs0 rr ⟨pc, rs, hc1, rfl, rfl⟩; exact toActor_ac pc rs hc1)
theorem e_toActor : ∀ (pc : Int) (rs : List Int), (rs.length < 17592186044416) → q_toActor [.agg [.int .i64 pc, .row false 1 (rs.map iv)]] = some (.agg [.int .i64 pc, .row true 1 (rs.map iv)]) := by
 intro pc rs hc1
 refine kgr_eq (fun xs0 rr r2 h h2 => ?_) ⟨pc, rs, hc1, rfl, rfl⟩
 obtain ⟨pc1, rs1, _, e1, rfl⟩ := h; obtain ⟨pc2, rs2, _, e2, rfl⟩ := h2
 rw [e1] at e2
 simp only [List.cons.injEq, A.int.injEq, A.bool.injEq, A.agg.injEq, A.row.injEq, A.fn.injEq, A.rp.injEq, insv_inj, iv_inj, true_and, and_true] at e2
 simp [e2]
theorem ok_specIsStream : Kn.ok Tryz.prog (kof [(91, q_l1Token)]) := kof_cons k_l1Token ((kof_nil _))
theorem specIsStream_ac (rs : List Int) (hc1 : rs.length < 17592186044416) : AC Tryz.prog 71 [.row false 1 (rs.map iv)] (.bool (strOk rs)) := by
 have e_l1Token := e_l1Token
 refine AC.of tab_ok Tryz.func71 rfl (Nat.le_of_ble_eq_true rfl) fun w0 S0 => ?_
 change G _ _ ⟨[(0, .row false 1 (rs.map iv))], [], 18⟩
 apply G.seq
 refine G.rg tab_ok ok_specIsStream (hk := ?_)
 apply G.seq
 apply G.seq
 refine G.rg tab_ok ok_specIsStream (hk := ?_)
 apply G.block
 refine G.cn [0, 5, 6, 7] [] (h := ?_)
 refine G.loopX (fun j : Nat => ⟨[(0, .row false 1 (rs.map iv)), (5, .row false 1 (rs.map iv)), (6, .int .i64 rs.length), (7, .int .i64 j)], [], 18⟩) (fun j => j ≤ rs.length ∧ ∀ k < j, tok (rs.getD k default) = true) (fun j => rs.length - j) (0) (⟨Nat.zero_le _, by omega⟩) (rfl) ?_
 intro j hj J hJ
 obtain ⟨hj, hall⟩ := hj
 have hw : IntKind.i64.wrap ((j : Int) + 1) = (j : Int) + 1 := wrap64 (by omega) (by omega)
 apply G.seq
 refine G.rg tab_ok ok_specIsStream (hk := ?_)
 apply G.seq
 refine G.iff (h1 := fun h1 => ?_) (h2 := fun h1 => ?_)
 ·try simp only [zqz] at h1
  apply G.skip
  apply G.seq
  apply G.block
  apply G.seq
  refine G.rg tab_ok ok_specIsStream (hk := ?_)
  apply G.seq
  refine G.rg tab_ok ok_specIsStream (hk := ?_)
  refine G.iff (h1 := fun h2 => ?_) (h2 := fun h2 => ?_)
  ·try simp only [zqz] at h2
   apply G.seq
   refine G.rg tab_ok ok_specIsStream (hk := ?_)
   refine G.fin tab_ok (hr := ?_)
   simp only [oneOrTup]
   congr 1
   symm
   unfold strOk
   rw [gnot h1 h2]
   rfl
  ·try simp only [zqz] at h2
   apply G.skip
   apply G.blk
   refine G.rg tab_ok ok_specIsStream (hk := ?_)
   refine G.cn [0, 5, 6, 7] [] (h := ?_)
   exact G.upto (hJ (j + 1) ⟨by omega, gupto (p := tok) hall h2⟩ (by omega)) (by simp)
 ·try simp only [zqz] at h1
  refine G.exit rfl ?_
  apply G.seq
  refine G.rg tab_ok ok_specIsStream (hk := ?_)
  refine G.fin tab_ok (hr := ?_)
  simp only [oneOrTup]
  congr 1
  unfold strOk
  rw [gall (p := tok) (fun k hk => hall k (by omega)), Bool.true_and]
def r_specIsStream (xs0 : List A) (rr : A) : Prop := ∃ (rs : List Int), (rs.length < 17592186044416) ∧ xs0 = [.row false 1 (rs.map iv)] ∧ rr = .bool (strOk rs)
noncomputable def q_specIsStream : List A → Option A := kgr r_specIsStream
theorem k_specIsStream : KOk Tryz.prog (71, q_specIsStream) := kgr_ok (enters_of Tryz.func71 rfl rfl) (by rintro xs0 rr ⟨rs, hc1, rfl, rfl⟩; exact specIsStream_ac rs hc1)
theorem e_specIsStream : ∀ (rs : List Int), (rs.length < 17592186044416) → q_specIsStream [.row false 1 (rs.map iv)] = some (.bool (strOk rs)) := by
 intro rs hc1
 refine kgr_eq (fun xs0 rr r2 h h2 => ?_) ⟨rs, hc1, rfl, rfl⟩
 obtain ⟨rs1, _, e1, rfl⟩ := h; obtain ⟨rs2, _, e2, rfl⟩ := h2
 rw [e1] at e2
 simp only [List.cons.injEq, A.int.injEq, A.bool.injEq, A.agg.injEq, A.row.injEq, A.fn.injEq, A.rp.injEq, insv_inj, iv_inj, true_and, and_true] at e2
 simp [e2]
theorem ok_isStream1 : Kn.ok Tryz.prog (kof [(98, q_isToken)]) := kof_cons k_isToken ((kof_nil _))
theorem isStream1_ac (x : Int)  : AC Tryz.prog 97 [.int .i64 x] (.bool (!(tok x))) := by
 have e_isToken := e_isToken
 refine AC.of tab_ok Tryz.func97 rfl (Nat.le_of_ble_eq_true rfl) fun w0 S0 => ?_
 change G _ _ ⟨[(0, .int .i64 x)], [], 6⟩
 apply G.seq
 refine G.rg tab_ok ok_isStream1 (hk := ?_)
 apply G.seq
 refine G.rg tab_ok ok_isStream1 (hk := ?_)
 refine G.fin tab_ok (hr := ?_)
 rfl
def r_isStream1 (xs0 : List A) (rr : A) : Prop := ∃ (x : Int), xs0 = [.int .i64 x] ∧ rr = .bool (!(tok x))
noncomputable def q_isStream1 : List A → Option A := kgr r_isStream1
theorem k_isStream1 : KOk Tryz.prog (97, q_isStream1) := kgr_ok (enters_of Tryz.func97 rfl rfl) (by rintro xs0 rr ⟨x, rfl, rfl⟩; exact isStream1_ac x)
theorem e_isStream1 : ∀ (x : Int), q_isStream1 [.int .i64 x] = some (.bool (!(tok x))) := by
 intro x
 refine kgr_eq (fun xs0 rr r2 h h2 => ?_) ⟨x, rfl, rfl⟩
 obtain ⟨x1, e1, rfl⟩ := h; obtain ⟨x2, e2, rfl⟩ := h2
 rw [e1] at e2
 simp only [List.cons.injEq, A.int.injEq, A.bool.injEq, A.agg.injEq, A.row.injEq, A.fn.injEq, A.rp.injEq, insv_inj, iv_inj, true_and, and_true] at e2
 simp [e2]
theorem ok_indexTok : Kn.ok Tryz.prog (kof [(97, q_isStream1)]) := kof_cons k_isStream1 ((kof_nil _))
theorem indexTok_ac (rs : List Int) (hc1 : rs.length < 17592186044416) : AC Tryz.prog 104 [.row false 1 (rs.map iv), .fn 97 []] (.int .i64 (gidx (fun x => !(tok x)) rs)) := by
 have e_isStream1 := e_isStream1
 refine AC.of tab_ok Tryz.func104 rfl (Nat.le_of_ble_eq_true rfl) fun w0 S0 => ?_
 change G _ _ ⟨[(0, .row false 1 (rs.map iv)), (1, .fn 97 [])], [], 19⟩
 apply G.seq
 refine G.rg tab_ok ok_indexTok (hk := ?_)
 apply G.seq
 apply G.seq
 refine G.rg tab_ok ok_indexTok (hk := ?_)
 apply G.block
 refine G.cn [0, 1, 7, 8] [] (h := ?_)
 refine G.loopX (fun j : Nat => ⟨[(0, .row false 1 (rs.map iv)), (1, .fn 97 []), (7, .int .i64 rs.length), (8, .int .i64 j)], [], 19⟩) (fun j => j ≤ rs.length ∧ ∀ k < j, (fun x => !(tok x)) (rs.getD k default) = false) (fun j => rs.length - j) (0) (⟨Nat.zero_le _, by omega⟩) (rfl) ?_
 intro j hj J hJ
 obtain ⟨hj, hall⟩ := hj
 have hw : IntKind.i64.wrap ((j : Int) + 1) = (j : Int) + 1 := wrap64 (by omega) (by omega)
 apply G.seq
 refine G.rg tab_ok ok_indexTok (hk := ?_)
 apply G.seq
 refine G.iff (h1 := fun h1 => ?_) (h2 := fun h1 => ?_)
 ·try simp only [zqz] at h1
  apply G.skip
  apply G.seq
  apply G.block
  apply G.seq
  refine G.rg tab_ok ok_indexTok (hk := ?_)
  apply G.seq
  refine G.rg tab_ok ok_indexTok (hk := ?_)
  refine G.fg [0, 1, 5, 7, 8, 16] (hk := ?_)
  refine G.iff (h1 := fun h2 => ?_) (h2 := fun h2 => ?_)
  ·try simp only [zqz] at h2
   apply G.seq
   refine G.rg tab_ok ok_indexTok (hk := ?_)
   refine G.fin tab_ok (hr := ?_)
   simp only [oneOrTup]
   congr 1
   exact (gidx_some (p := fun x => !(tok x)) h1 hall (by simp only [Bool.not_eq_true']; exact h2)).symm
  ·try simp only [zqz] at h2
   apply G.skip
   apply G.blk
   refine G.rg tab_ok ok_indexTok (hk := ?_)
   refine G.cn [0, 1, 7, 8] [] (h := ?_)
   exact G.upto (hJ (j + 1) ⟨by omega, gupto (p := fun x => !(tok x)) hall (by simp only [Bool.not_eq_false']; exact h2)⟩ (by omega)) (by simp)
 ·try simp only [zqz] at h1
  refine G.exit rfl ?_
  apply G.seq
  refine G.rg tab_ok ok_indexTok (hk := ?_)
  refine G.fin tab_ok (hr := ?_)
  simp only [oneOrTup]
  congr 1
  exact (gidx_none (fun k hk => hall k (by omega))).symm
def r_indexTok (xs0 : List A) (rr : A) : Prop := ∃ (rs : List Int), (rs.length < 17592186044416) ∧ xs0 = [.row false 1 (rs.map iv), .fn 97 []] ∧ rr = .int .i64 (gidx (fun x => !(tok x)) rs)
noncomputable def q_indexTok : List A → Option A := kgr r_indexTok
theorem k_indexTok : KOk Tryz.prog (104, q_indexTok) := kgr_ok (enters_of Tryz.func104 rfl rfl) (by rintro xs0 rr ⟨rs, hc1, rfl, rfl⟩; exact indexTok_ac rs hc1)
theorem e_indexTok : ∀ (rs : List Int), (rs.length < 17592186044416) → q_indexTok [.row false 1 (rs.map iv), .fn 97 []] = some (.int .i64 (gidx (fun x => !(tok x)) rs)) := by
 intro rs hc1
 refine kgr_eq (fun xs0 rr r2 h h2 => ?_) ⟨rs, hc1, rfl, rfl⟩
 obtain ⟨rs1, _, e1, rfl⟩ := h; obtain ⟨rs2, _, e2, rfl⟩ := h2
 rw [e1] at e2
 simp only [List.cons.injEq, A.int.injEq, A.bool.injEq, A.agg.injEq, A.row.injEq, A.fn.injEq, A.rp.injEq, insv_inj, iv_inj, true_and, and_true] at e2
 simp [e2]
theorem ok_containsTok : Kn.ok Tryz.prog (kof [(104, q_indexTok)]) := kof_cons k_indexTok ((kof_nil _))
theorem containsTok_ac (rs : List Int) (hc1 : rs.length < 17592186044416) : AC Tryz.prog 96 [.row false 1 (rs.map iv), .fn 97 []] (.bool (!(rs.all tok))) := by
 have e_indexTok := e_indexTok
 refine AC.of tab_ok Tryz.func96 rfl (Nat.le_of_ble_eq_true rfl) fun w0 S0 => ?_
 change G _ _ ⟨[(0, .row false 1 (rs.map iv)), (1, .fn 97 [])], [], 9⟩
 apply G.seq
 refine G.rg tab_ok ok_containsTok (hk := ?_)
 apply G.seq
 refine G.rg tab_ok ok_containsTok (hk := ?_)
 refine G.fin tab_ok (hr := ?_)
 simp only [oneOrTup]
 congr 1
 exact gidx_pos _ _
def r_containsTok (xs0 : List A) (rr : A) : Prop := ∃ (rs : List Int), (rs.length < 17592186044416) ∧ xs0 = [.row false 1 (rs.map iv), .fn 97 []] ∧ rr = .bool (!(rs.all tok))
noncomputable def q_containsTok : List A → Option A := kgr r_containsTok
theorem k_containsTok : KOk Tryz.prog (96, q_containsTok) := kgr_ok (enters_of Tryz.func96 rfl rfl) (by rintro xs0 rr ⟨rs, hc1, rfl, rfl⟩; exact containsTok_ac rs hc1)
theorem e_containsTok : ∀ (rs : List Int), (rs.length < 17592186044416) → q_containsTok [.row false 1 (rs.map iv), .fn 97 []] = some (.bool (!(rs.all tok))) := by
 intro rs hc1
 refine kgr_eq (fun xs0 rr r2 h h2 => ?_) ⟨rs, hc1, rfl, rfl⟩
 obtain ⟨rs1, _, e1, rfl⟩ := h; obtain ⟨rs2, _, e2, rfl⟩ := h2
 rw [e1] at e2
 simp only [List.cons.injEq, A.int.injEq, A.bool.injEq, A.agg.injEq, A.row.injEq, A.fn.injEq, A.rp.injEq, insv_inj, iv_inj, true_and, and_true] at e2
 simp [e2]
theorem ok_implIsStream : Kn.ok Tryz.prog (kof [(96, q_containsTok)]) := kof_cons k_containsTok ((kof_nil _))
theorem implIsStream_ac (rs : List Int) (hc1 : rs.length < 17592186044416) : AC Tryz.prog 80 [.row false 1 (rs.map iv)] (.bool (strOk rs)) := by
 have e_containsTok := e_containsTok
 refine AC.of tab_ok Tryz.func80 rfl (Nat.le_of_ble_eq_true rfl) fun w0 S0 => ?_
 change G _ _ ⟨[(0, .row false 1 (rs.map iv))], [], 11⟩
 apply G.seq
 refine G.rg tab_ok ok_implIsStream (hk := ?_)
 apply G.seq
 refine G.rg tab_ok ok_implIsStream (hk := ?_)
 refine G.fin tab_ok (hr := ?_)
 simp only [oneOrTup]
 congr 1
 unfold strOk
 rw [Bool.not_not, Bool.and_comm]
def r_implIsStream (xs0 : List A) (rr : A) : Prop := ∃ (rs : List Int), (rs.length < 17592186044416) ∧ xs0 = [.row false 1 (rs.map iv)] ∧ rr = .bool (strOk rs)
noncomputable def q_implIsStream : List A → Option A := kgr r_implIsStream
theorem k_implIsStream : KOk Tryz.prog (80, q_implIsStream) := kgr_ok (enters_of Tryz.func80 rfl rfl) (by rintro xs0 rr ⟨rs, hc1, rfl, rfl⟩; exact implIsStream_ac rs hc1)
theorem e_implIsStream : ∀ (rs : List Int), (rs.length < 17592186044416) → q_implIsStream [.row false 1 (rs.map iv)] = some (.bool (strOk rs)) := by
 intro rs hc1
 refine kgr_eq (fun xs0 rr r2 h h2 => ?_) ⟨rs, hc1, rfl, rfl⟩
 obtain ⟨rs1, _, e1, rfl⟩ := h; obtain ⟨rs2, _, e2, rfl⟩ := h2
 rw [e1] at e2
 simp only [List.cons.injEq, A.int.injEq, A.bool.injEq, A.agg.injEq, A.row.injEq, A.fn.injEq, A.rp.injEq, insv_inj, iv_inj, true_and, and_true] at e2
 simp [e2]
theorem ok_l2Actor : Kn.ok Tryz.prog (kof [(69, q_l1In), (71, q_specIsStream)]) := kof_cons k_l1In (kof_cons k_specIsStream ((kof_nil _)))
theorem l2Actor_ac (i : Int) (o : Int) (l : List I4) (pc : Int) (rs : List Int) (hc1 : rs.length < 17592186044416) : AC Tryz.prog 70 [.agg [.int .i64 i, .int .i64 o, .row false 4 (l.map insv)], .agg [.int .i64 pc, .row false 1 (rs.map iv)]] (.bool (actOk pc l.length rs)) := by
 have e_l1In := e_l1In
 have e_specIsStream := e_specIsStream
 refine AC.of tab_ok Tryz.func70 rfl (Nat.le_of_ble_eq_true rfl) fun w0 S0 => ?_
 change G _ _ ⟨[(0, .agg [.int .i64 i, .int .i64 o, .row false 4 (l.map insv)]), (1, .agg [.int .i64 pc, .row false 1 (rs.map iv)])], [], 22⟩
 apply G.seq
 refine G.rg tab_ok ok_l2Actor (hk := ?_)
 apply G.seq
 refine G.rg tab_ok ok_l2Actor (hk := ?_)
 refine G.fin tab_ok (hr := ?_)
 rfl
def r_l2Actor (xs0 : List A) (rr : A) : Prop := ∃ (i : Int) (o : Int) (l : List I4) (pc : Int) (rs : List Int), (rs.length < 17592186044416) ∧ xs0 = [.agg [.int .i64 i, .int .i64 o, .row false 4 (l.map insv)], .agg [.int .i64 pc, .row false 1 (rs.map iv)]] ∧ rr = .bool (actOk pc l.length rs)
noncomputable def q_l2Actor : List A → Option A := kgr r_l2Actor
theorem k_l2Actor : KOk Tryz.prog (70, q_l2Actor) := kgr_ok (enters_of Tryz.func70 rfl rfl) (by rintro xs0 rr ⟨i, o, l, pc, rs, hc1, rfl, rfl⟩; exact l2Actor_ac i o l pc rs hc1)
theorem e_l2Actor : ∀ (i : Int) (o : Int) (l : List I4) (pc : Int) (rs : List Int), (rs.length < 17592186044416) → q_l2Actor [.agg [.int .i64 i, .int .i64 o, .row false 4 (l.map insv)], .agg [.int .i64 pc, .row false 1 (rs.map iv)]] = some (.bool (actOk pc l.length rs)) := by
 intro i o l pc rs hc1
 refine kgr_eq (fun xs0 rr r2 h h2 => ?_) ⟨i, o, l, pc, rs, hc1, rfl, rfl⟩
 obtain ⟨i1, o1, l1, pc1, rs1, _, e1, rfl⟩ := h; obtain ⟨i2, o2, l2, pc2, rs2, _, e2, rfl⟩ := h2
 rw [e1] at e2
 simp only [List.cons.injEq, A.int.injEq, A.bool.injEq, A.agg.injEq, A.row.injEq, A.fn.injEq, A.rp.injEq, insv_inj, iv_inj, true_and, and_true] at e2
 simp [e2]
theorem ok_isActor0 : Kn.ok Tryz.prog (kof [(80, q_implIsStream)]) := kof_cons k_implIsStream ((kof_nil _))
theorem isActor0_ac (i : Int) (o : Int) (l : List I4) (pc : Int) (rs : List Int) (hc1 : rs.length < 17592186044416) : AC Tryz.prog 79 [.agg [.int .i64 i, .int .i64 o, .row false 4 (l.map insv)], .agg [.int .i64 pc, .row false 1 (rs.map iv)]] (.bool (actOk pc l.length rs)) := by
 have e_implIsStream := e_implIsStream
 refine AC.of tab_ok Tryz.func79 rfl (Nat.le_of_ble_eq_true rfl) fun w0 S0 => ?_
 change G _ _ ⟨[(0, .agg [.int .i64 i, .int .i64 o, .row false 4 (l.map insv)]), (1, .agg [.int .i64 pc, .row false 1 (rs.map iv)])], [], 27⟩
 apply G.seq
 refine G.rg tab_ok ok_isActor0 (hk := ?_)
 apply G.seq
 refine G.rg tab_ok ok_isActor0 (hk := ?_)
 refine G.fin tab_ok (hr := ?_)
 rfl
def r_isActor0 (xs0 : List A) (rr : A) : Prop := ∃ (i : Int) (o : Int) (l : List I4) (pc : Int) (rs : List Int), (rs.length < 17592186044416) ∧ xs0 = [.agg [.int .i64 i, .int .i64 o, .row false 4 (l.map insv)], .agg [.int .i64 pc, .row false 1 (rs.map iv)]] ∧ rr = .bool (actOk pc l.length rs)
noncomputable def q_isActor0 : List A → Option A := kgr r_isActor0
theorem k_isActor0 : KOk Tryz.prog (79, q_isActor0) := kgr_ok (enters_of Tryz.func79 rfl rfl) (by rintro xs0 rr ⟨i, o, l, pc, rs, hc1, rfl, rfl⟩; exact isActor0_ac i o l pc rs hc1)
theorem e_isActor0 : ∀ (i : Int) (o : Int) (l : List I4) (pc : Int) (rs : List Int), (rs.length < 17592186044416) → q_isActor0 [.agg [.int .i64 i, .int .i64 o, .row false 4 (l.map insv)], .agg [.int .i64 pc, .row false 1 (rs.map iv)]] = some (.bool (actOk pc l.length rs)) := by
 intro i o l pc rs hc1
 refine kgr_eq (fun xs0 rr r2 h h2 => ?_) ⟨i, o, l, pc, rs, hc1, rfl, rfl⟩
 obtain ⟨i1, o1, l1, pc1, rs1, _, e1, rfl⟩ := h; obtain ⟨i2, o2, l2, pc2, rs2, _, e2, rfl⟩ := h2
 rw [e1] at e2
 simp only [List.cons.injEq, A.int.injEq, A.bool.injEq, A.agg.injEq, A.row.injEq, A.fn.injEq, A.rp.injEq, insv_inj, iv_inj, true_and, and_true] at e2
 simp [e2]
-- not in this seat: specIsActor
-- not in this seat: implIsActor
theorem eqIntS_ac (l : List Int) (m : List Int) (hc1 : l.length < 17592186044416) (hc2 : m.length < 17592186044416) : AC Tryz.prog 61 [.row false 1 (l.map iv), .row false 1 (m.map iv)] (.bool (decide (l = m))) := by
 refine AC.of tab_ok Tryz.func61 rfl (Nat.le_of_ble_eq_true rfl) fun w0 S0 => ?_
 change G _ _ ⟨[(0, .row false 1 (l.map iv)), (1, .row false 1 (m.map iv))], [], 26⟩
 apply G.seq
 refine G.rg tab_ok (kof_nil _) (hk := ?_)
 apply G.seq
 apply G.seq
 refine G.rg tab_ok (kof_nil _) (hk := ?_)
 refine G.iff (h1 := fun h1 => ?_) (h2 := fun h1 => ?_)
 ·try simp only [zqz] at h1
  apply G.seq
  refine G.rg tab_ok (kof_nil _) (hk := ?_)
  refine G.fin tab_ok (hr := ?_)
  simp only [oneOrTup]
  congr 1
  symm
  rw [decide_eq_false_iff_not]
  intro e
  exact h1 (by rw [e])
 ·try simp only [zqz] at h1
  apply G.skip
  apply G.seq
  apply G.seq
  refine G.rg tab_ok (kof_nil _) (hk := ?_)
  apply G.block
  refine G.cn [0, 1, 5] [] (h := ?_)
  refine G.loopX (fun i : Nat => ⟨[(0, .row false 1 (l.map iv)), (1, .row false 1 (m.map iv)), (5, .int .i64 i)], [], 26⟩) (fun i => i ≤ l.length ∧ ∀ j < i, l.getD j default = m.getD j default) (fun i => l.length - i) (0) (⟨Nat.zero_le _, by omega⟩) (rfl) ?_
  intro i hi J hJ
  obtain ⟨hi, hall⟩ := hi
  have hw : IntKind.i64.wrap ((i : Int) + 1) = (i : Int) + 1 := wrap64 (by omega) (by omega)
  apply G.seq
  apply G.seq
  refine G.rg tab_ok (kof_nil _) (hk := ?_)
  refine G.iff (h1 := fun h2 => ?_) (h2 := fun h2 => ?_)
  ·try simp only [zqz] at h2
   apply G.skip
   apply G.seq
   apply G.block
   apply G.seq
   have h1m : i < m.length := by omega
   have h1l : i < l.length := by omega
   refine G.dr mixed tab_ok (kof_nil _) [0, 1, 2, 3, 4, 5, 6, 7, 8] (hk := ?_)
   refine G.fg [0, 1, 5, 25] (hk := ?_)
   refine G.iff (h1 := fun h3 => ?_) (h2 := fun h3 => ?_)
   ·try simp only [zqz] at h3
    apply G.seq
    refine G.rg tab_ok (kof_nil _) (hk := ?_)
    refine G.fin tab_ok (hr := ?_)
    simp only [oneOrTup]
    congr 1
    symm
    rw [decide_eq_false_iff_not]
    intro e
    exact h3 (by rw [e])
   ·try simp only [zqz] at h3
    apply G.skip
    apply G.blk
    refine G.rg tab_ok (kof_nil _) (hk := ?_)
    refine G.cn [0, 1, 5] [] (h := ?_)
    exact G.upto (hJ (i + 1) ⟨by omega, geq_upto hall h3⟩ (by omega)) (by simp)
  ·try simp only [zqz] at h2
   refine G.exit rfl ?_
   apply G.seq
   refine G.rg tab_ok (kof_nil _) (hk := ?_)
   refine G.fin tab_ok (hr := ?_)
   simp only [oneOrTup]
   congr 1
   symm
   rw [decide_eq_true_eq]
   exact geq_all (by omega) (fun j hj => hall j (by omega))
def r_eqIntS (xs0 : List A) (rr : A) : Prop := ∃ (l : List Int) (m : List Int), (l.length < 17592186044416) ∧ (m.length < 17592186044416) ∧ xs0 = [.row false 1 (l.map iv), .row false 1 (m.map iv)] ∧ rr = .bool (decide (l = m))
noncomputable def q_eqIntS : List A → Option A := kgr r_eqIntS
theorem k_eqIntS : KOk Tryz.prog (61, q_eqIntS) := kgr_ok (enters_of Tryz.func61 rfl rfl) (by rintro xs0 rr ⟨l, m, hc1, hc2, rfl, rfl⟩; exact eqIntS_ac l m hc1 hc2)
theorem e_eqIntS : ∀ (l : List Int) (m : List Int), (l.length < 17592186044416) → (m.length < 17592186044416) → q_eqIntS [.row false 1 (l.map iv), .row false 1 (m.map iv)] = some (.bool (decide (l = m))) := by
 intro l m hc1 hc2
 refine kgr_eq (fun xs0 rr r2 h h2 => ?_) ⟨l, m, hc1, hc2, rfl, rfl⟩
 obtain ⟨l1, m1, _, _, e1, rfl⟩ := h; obtain ⟨l2, m2, _, _, e2, rfl⟩ := h2
 rw [e1] at e2
 simp only [List.cons.injEq, A.int.injEq, A.bool.injEq, A.agg.injEq, A.row.injEq, A.fn.injEq, A.rp.injEq, insv_inj, iv_inj, true_and, and_true] at e2
 simp [e2]
theorem ok_eqActor : Kn.ok Tryz.prog (kof [(61, q_eqIntS)]) := kof_cons k_eqIntS ((kof_nil _))
theorem eqActor_ac (pc : Int) (rs : List Int) (pc' : Int) (rs' : List Int) (hc1 : rs.length < 17592186044416) (hc2 : rs'.length < 17592186044416) : AC Tryz.prog 60 [.agg [.int .i64 pc, .row false 1 (rs.map iv)], .agg [.int .i64 pc', .row false 1 (rs'.map iv)]] (.bool (decide ((pc, rs) = (pc', rs')))) := by
 have e_eqIntS := e_eqIntS
 refine AC.of tab_ok Tryz.func60 rfl (Nat.le_of_ble_eq_true rfl) fun w0 S0 => ?_
 change G _ _ ⟨[(0, .agg [.int .i64 pc, .row false 1 (rs.map iv)]), (1, .agg [.int .i64 pc', .row false 1 (rs'.map iv)])], [], 16⟩
 apply G.seq
 refine G.rg tab_ok ok_eqActor (hk := ?_)
 apply G.seq
 apply G.seq
 refine G.rg tab_ok ok_eqActor (hk := ?_)
 refine G.iff (h1 := fun h1 => ?_) (h2 := fun h1 => ?_)
 ·try simp only [zqz] at h1
  apply G.seq
  refine G.rg tab_ok ok_eqActor (hk := ?_)
  refine G.fin tab_ok (hr := ?_)
  simp [oneOrTup, *]
 ·try simp only [zqz] at h1
  apply G.skip
  apply G.seq
  apply G.seq
  refine G.rg tab_ok ok_eqActor (hk := ?_)
  refine G.fg [15] (hk := ?_)
  refine G.iff (h1 := fun h2 => ?_) (h2 := fun h2 => ?_)
  ·try simp only [zqz] at h2
   apply G.seq
   refine G.rg tab_ok ok_eqActor (hk := ?_)
   refine G.fin tab_ok (hr := ?_)
   simp [oneOrTup, *]
  ·try simp only [zqz] at h2
   apply G.skip
   apply G.seq
   refine G.rg tab_ok ok_eqActor (hk := ?_)
   refine G.fin tab_ok (hr := ?_)
   simp [oneOrTup, *]
def r_eqActor (xs0 : List A) (rr : A) : Prop := ∃ (pc : Int) (rs : List Int) (pc' : Int) (rs' : List Int), (rs.length < 17592186044416) ∧ (rs'.length < 17592186044416) ∧ xs0 = [.agg [.int .i64 pc, .row false 1 (rs.map iv)], .agg [.int .i64 pc', .row false 1 (rs'.map iv)]] ∧ rr = .bool (decide ((pc, rs) = (pc', rs')))
noncomputable def q_eqActor : List A → Option A := kgr r_eqActor
theorem k_eqActor : KOk Tryz.prog (60, q_eqActor) := kgr_ok (enters_of Tryz.func60 rfl rfl) (by rintro xs0 rr ⟨pc, rs, pc', rs', hc1, hc2, rfl, rfl⟩; exact eqActor_ac pc rs pc' rs' hc1 hc2)
theorem e_eqActor : ∀ (pc : Int) (rs : List Int) (pc' : Int) (rs' : List Int), (rs.length < 17592186044416) → (rs'.length < 17592186044416) → q_eqActor [.agg [.int .i64 pc, .row false 1 (rs.map iv)], .agg [.int .i64 pc', .row false 1 (rs'.map iv)]] = some (.bool (decide ((pc, rs) = (pc', rs')))) := by
 intro pc rs pc' rs' hc1 hc2
 refine kgr_eq (fun xs0 rr r2 h h2 => ?_) ⟨pc, rs, pc', rs', hc1, hc2, rfl, rfl⟩
 obtain ⟨pc1, rs1, pc'1, rs'1, _, _, e1, rfl⟩ := h; obtain ⟨pc2, rs2, pc'2, rs'2, _, _, e2, rfl⟩ := h2
 rw [e1] at e2
 simp only [List.cons.injEq, A.int.injEq, A.bool.injEq, A.agg.injEq, A.row.injEq, A.fn.injEq, A.rp.injEq, insv_inj, iv_inj, true_and, and_true] at e2
 simp [e2]
end Go.Proofs.YtdcjlemkegifjaaGreat.Ab
namespace Go.Proofs.YtdcjlemkegifjaaGreat.Ab
open Go
set_option linter.unusedVariables false
set_option linter.unusedSimpArgs false
set_option maxHeartbeats 4000000
def wantK (l : List I4) (pc : Int) : Int × Int := if pc = l.length then (0, 0) else if (l.getD pc.toNat default).1 = 11 then (0, 0) else if (l.getD pc.toNat default).1 = 1 then (2, (l.getD pc.toNat default).2.2.1) else if (l.getD pc.toNat default).1 = 2 then (3, (l.getD pc.toNat default).2.2.1) else (1, 0)
theorem act_pc {pc n : Int} {rs : List Int} (h : actOk pc n rs = true) : 0 ≤ pc ∧ pc ≤ n := by
 simp only [actOk, inR, Bool.and_eq_true, decide_eq_true_eq] at h
 omega
theorem implWant_ac (i : Int) (o : Int) (l : List I4) (pc : Int) (rs : List Int) (hc1 : 0 ≤ pc) (hc2 : pc ≤ l.length) : AC Tryz.prog 85 [.agg [.int .i64 i, .int .i64 o, .row false 4 (l.map insv)], .agg [.int .i64 pc, .row false 1 (rs.map iv)]] (.tup [.int .i64 (wantK l pc).1, .int .i64 (wantK l pc).2]) := by
 refine AC.of tab_ok Tryz.func85 rfl (Nat.le_of_ble_eq_true rfl) fun w0 S0 => ?_
 change G _ _ ⟨[(0, .agg [.int .i64 i, .int .i64 o, .row false 4 (l.map insv)]), (1, .agg [.int .i64 pc, .row false 1 (rs.map iv)])], [], 31⟩
 apply G.seq
 refine G.rg tab_ok (kof_nil _) (hk := ?_)
 apply G.seq
 apply G.seq
 refine G.rg tab_ok (kof_nil _) (hk := ?_)
 refine G.fg [2, 3, 12, 25, 26, 29, 30] (hk := ?_)
 refine G.iff (h1 := fun h1 => ?_) (h2 := fun h1 => ?_)
 ·try simp only [zqz] at h1
  apply G.seq
  refine G.rg tab_ok (kof_nil _) (hk := ?_)
  refine G.fin tab_ok (hr := ?_)
  simp only [oneOrTup, wantK, if_true, if_false, eq_self, Int.reduceEq, *]
 ·try simp only [zqz] at h1
  apply G.skip
  apply G.seq
  apply G.seq
  have hp1 : pc < l.length := by omega
  have hp2 : pc.toNat < l.length := by omega
  refine G.rg tab_ok (kof_nil _) (hk := ?_)
  apply G.seq
  refine G.rg tab_ok (kof_nil _) (hk := ?_)
  apply G.block
  apply G.seq
  refine G.rg tab_ok (kof_nil _) (hk := ?_)
  refine G.fg [6, 20, 21, 25, 26, 29, 30] (hk := ?_)
  refine G.iff (h1 := fun h2 => ?_) (h2 := fun h2 => ?_)
  ·try simp only [zqz] at h2
   apply G.seq
   refine G.rg tab_ok (kof_nil _) (hk := ?_)
   refine G.fin tab_ok (hr := ?_)
   simp only [oneOrTup, wantK, if_true, if_false, eq_self, Int.reduceEq, *]
  ·try simp only [zqz] at h2
   apply G.seq
   refine G.rg tab_ok (kof_nil _) (hk := ?_)
   refine G.iff (h1 := fun h3 => ?_) (h2 := fun h3 => ?_)
   ·try simp only [zqz] at h3
    apply G.seq
    refine G.dr mixed tab_ok (kof_nil _) [0, 1, 2, 3] (hk := ?_)
    refine G.fin tab_ok (hr := ?_)
    simp only [oneOrTup, wantK, if_true, if_false, eq_self, Int.reduceEq, *]
   ·try simp only [zqz] at h3
    apply G.seq
    refine G.rg tab_ok (kof_nil _) (hk := ?_)
    refine G.iff (h1 := fun h4 => ?_) (h2 := fun h4 => ?_)
    ·try simp only [zqz] at h4
     apply G.seq
     refine G.dr mixed tab_ok (kof_nil _) [0, 1, 2, 3] (hk := ?_)
     refine G.fin tab_ok (hr := ?_)
     simp only [oneOrTup, wantK, if_true, if_false, eq_self, Int.reduceEq, *]
    ·try simp only [zqz] at h4
     apply G.skip
     apply G.blk
     apply G.seq
     refine G.rg tab_ok (kof_nil _) (hk := ?_)
     refine G.fin tab_ok (hr := ?_)
     simp only [oneOrTup, wantK, if_true, if_false, eq_self, Int.reduceEq, *]
def r_implWant (xs0 : List A) (rr : A) : Prop := ∃ (i : Int) (o : Int) (l : List I4) (pc : Int) (rs : List Int), (0 ≤ pc) ∧ (pc ≤ l.length) ∧ xs0 = [.agg [.int .i64 i, .int .i64 o, .row false 4 (l.map insv)], .agg [.int .i64 pc, .row false 1 (rs.map iv)]] ∧ rr = .tup [.int .i64 (wantK l pc).1, .int .i64 (wantK l pc).2]
noncomputable def q_implWant : List A → Option A := kgr r_implWant
theorem k_implWant : KOk Tryz.prog (85, q_implWant) := kgr_ok (enters_of Tryz.func85 rfl rfl) (by rintro xs0 rr ⟨i, o, l, pc, rs, hc1, hc2, rfl, rfl⟩; exact implWant_ac i o l pc rs hc1 hc2)
theorem e_implWant : ∀ (i : Int) (o : Int) (l : List I4) (pc : Int) (rs : List Int), (0 ≤ pc) → (pc ≤ l.length) → q_implWant [.agg [.int .i64 i, .int .i64 o, .row false 4 (l.map insv)], .agg [.int .i64 pc, .row false 1 (rs.map iv)]] = some (.tup [.int .i64 (wantK l pc).1, .int .i64 (wantK l pc).2]) := by
 intro i o l pc rs hc1 hc2
 refine kgr_eq (fun xs0 rr r2 h h2 => ?_) ⟨i, o, l, pc, rs, hc1, hc2, rfl, rfl⟩
 obtain ⟨i1, o1, l1, pc1, rs1, _, _, e1, rfl⟩ := h; obtain ⟨i2, o2, l2, pc2, rs2, _, _, e2, rfl⟩ := h2
 rw [e1] at e2
 simp only [List.cons.injEq, A.int.injEq, A.bool.injEq, A.agg.injEq, A.row.injEq, A.fn.injEq, A.rp.injEq, insv_inj, iv_inj, true_and, and_true] at e2
 simp [e2]
theorem l2Want_ac (i : Int) (o : Int) (l : List I4) (pc : Int) (rs : List Int) (hc1 : 0 ≤ pc) (hc2 : pc ≤ l.length) : AC Tryz.prog 46 [.agg [.int .i64 i, .int .i64 o, .row false 4 (l.map insv)], .agg [.int .i64 pc, .row false 1 (rs.map iv)]] (.tup [.int .i64 (wantK l pc).1, .int .i64 (wantK l pc).2]) := by
 refine AC.of tab_ok Tryz.func46 rfl (Nat.le_of_ble_eq_true rfl) fun w0 S0 => ?_
 change G _ _ ⟨[(0, .agg [.int .i64 i, .int .i64 o, .row false 4 (l.map insv)]), (1, .agg [.int .i64 pc, .row false 1 (rs.map iv)])], [], 31⟩
 apply G.seq
 refine G.rg tab_ok (kof_nil _) (hk := ?_)
 apply G.seq
 apply G.seq
 refine G.rg tab_ok (kof_nil _) (hk := ?_)
 refine G.fg [2, 3, 12, 25, 26, 29, 30] (hk := ?_)
 refine G.iff (h1 := fun h1 => ?_) (h2 := fun h1 => ?_)
 ·try simp only [zqz] at h1
  apply G.seq
  refine G.rg tab_ok (kof_nil _) (hk := ?_)
  refine G.fin tab_ok (hr := ?_)
  simp only [oneOrTup, wantK, if_true, if_false, eq_self, Int.reduceEq, *]
 ·try simp only [zqz] at h1
  apply G.skip
  apply G.seq
  have hp1 : pc < l.length := by omega
  have hp2 : pc.toNat < l.length := by omega
  refine G.rg tab_ok (kof_nil _) (hk := ?_)
  apply G.seq
  apply G.seq
  refine G.rg tab_ok (kof_nil _) (hk := ?_)
  apply G.block
  apply G.seq
  refine G.rg tab_ok (kof_nil _) (hk := ?_)
  refine G.fg [6, 20, 21, 25, 26, 29, 30] (hk := ?_)
  refine G.iff (h1 := fun h2 => ?_) (h2 := fun h2 => ?_)
  ·try simp only [zqz] at h2
   apply G.seq
   refine G.rg tab_ok (kof_nil _) (hk := ?_)
   refine G.fin tab_ok (hr := ?_)
   simp only [oneOrTup, wantK, if_true, if_false, eq_self, Int.reduceEq, *]
  ·try simp only [zqz] at h2
   apply G.seq
   refine G.rg tab_ok (kof_nil _) (hk := ?_)
   refine G.iff (h1 := fun h3 => ?_) (h2 := fun h3 => ?_)
   ·try simp only [zqz] at h3
    apply G.seq
    refine G.dr mixed tab_ok (kof_nil _) [0, 1, 2, 3] (hk := ?_)
    refine G.fin tab_ok (hr := ?_)
    simp only [oneOrTup, wantK, if_true, if_false, eq_self, Int.reduceEq, *]
   ·try simp only [zqz] at h3
    apply G.seq
    refine G.rg tab_ok (kof_nil _) (hk := ?_)
    refine G.iff (h1 := fun h4 => ?_) (h2 := fun h4 => ?_)
    ·try simp only [zqz] at h4
     apply G.seq
     refine G.dr mixed tab_ok (kof_nil _) [0, 1, 2, 3] (hk := ?_)
     refine G.fin tab_ok (hr := ?_)
     simp only [oneOrTup, wantK, if_true, if_false, eq_self, Int.reduceEq, *]
    ·try simp only [zqz] at h4
     apply G.skip
     apply G.blk
     apply G.seq
     refine G.rg tab_ok (kof_nil _) (hk := ?_)
     refine G.fin tab_ok (hr := ?_)
     simp only [oneOrTup, wantK, if_true, if_false, eq_self, Int.reduceEq, *]
def r_l2Want (xs0 : List A) (rr : A) : Prop := ∃ (i : Int) (o : Int) (l : List I4) (pc : Int) (rs : List Int), (0 ≤ pc) ∧ (pc ≤ l.length) ∧ xs0 = [.agg [.int .i64 i, .int .i64 o, .row false 4 (l.map insv)], .agg [.int .i64 pc, .row false 1 (rs.map iv)]] ∧ rr = .tup [.int .i64 (wantK l pc).1, .int .i64 (wantK l pc).2]
noncomputable def q_l2Want : List A → Option A := kgr r_l2Want
theorem k_l2Want : KOk Tryz.prog (46, q_l2Want) := kgr_ok (enters_of Tryz.func46 rfl rfl) (by rintro xs0 rr ⟨i, o, l, pc, rs, hc1, hc2, rfl, rfl⟩; exact l2Want_ac i o l pc rs hc1 hc2)
theorem e_l2Want : ∀ (i : Int) (o : Int) (l : List I4) (pc : Int) (rs : List Int), (0 ≤ pc) → (pc ≤ l.length) → q_l2Want [.agg [.int .i64 i, .int .i64 o, .row false 4 (l.map insv)], .agg [.int .i64 pc, .row false 1 (rs.map iv)]] = some (.tup [.int .i64 (wantK l pc).1, .int .i64 (wantK l pc).2]) := by
 intro i o l pc rs hc1 hc2
 refine kgr_eq (fun xs0 rr r2 h h2 => ?_) ⟨i, o, l, pc, rs, hc1, hc2, rfl, rfl⟩
 obtain ⟨i1, o1, l1, pc1, rs1, _, _, e1, rfl⟩ := h; obtain ⟨i2, o2, l2, pc2, rs2, _, _, e2, rfl⟩ := h2
 rw [e1] at e2
 simp only [List.cons.injEq, A.int.injEq, A.bool.injEq, A.agg.injEq, A.row.injEq, A.fn.injEq, A.rp.injEq, insv_inj, iv_inj, true_and, and_true] at e2
 simp [e2]
theorem set_self {h : Heap} {m : Nat} {x : Option Blk} (hm : h[m]? = some x) (b : Option Blk) : (h.set m b)[m]? = some b := List.getElem?_set_self (List.getElem?_eq_some_iff.1 hm).1
theorem set_same {h : Heap} {m : Nat} {x : Option Blk} (hm : h[m]? = some x) : h.set m x = h := by
 obtain ⟨hl, e⟩ := List.getElem?_eq_some_iff.1 hm
 rw [← e]; exact List.set_getElem_self hl
def mkI (n : Int) (k : Nat) : List Int := (List.range k).map fun (j : Nat) => n + (j : Int)
def upI (n : Int) (rs : List Int) (j : Nat) : List Int := mkI n j ++ rs.drop j
theorem mkI_len (n : Int) (k : Nat) : (mkI n k).length = k := by simp [mkI]
theorem upI_zero (n : Int) (rs : List Int) : upI n rs 0 = rs := by simp [upI, mkI]
theorem upI_full (n : Int) (rs : List Int) : upI n rs rs.length = mkI n rs.length := by simp [upI]
theorem upI_get (n : Int) {rs : List Int} {j : Nat} (h : j < rs.length) : ((upI n rs j).map iv)[j]? = some [.int .i64 (rs.getD j default)] := by
 unfold upI
 rw [List.getElem?_map, List.getElem?_append_right (by rw [mkI_len]; omega), mkI_len]
 simp [iv, h]
theorem upI_set (n : Int) {rs : List Int} {j : Nat} (h : j < rs.length) : ((upI n rs j).map iv).set j [.int .i64 (n + j)] = (upI n rs (j + 1)).map iv := by
 have e : [A.int .i64 (n + (j : Int))] = iv (n + j) := rfl
 rw [e, ← List.map_set]
 congr 1
 unfold upI
 rw [List.set_append_right _ _ (by rw [mkI_len]; omega), mkI_len, Nat.sub_self, List.drop_eq_getElem_cons h, List.set_cons_zero]
 simp [mkI, List.range_succ]
theorem markIntS_mc (h : Heap) (m : Nat) (rs : List Int) (n : Int) (hc1 : h[m]? = some (some (1, rs.map iv))) (hc2 : 0 ≤ n) (hc3 : n ≤ 1099511627776) (hc4 : rs.length < 1099511627776) : MC Tryz.prog 65 h [.sl m 0 rs.length, .int .i64 n] (.int .i64 (n + rs.length)) (h.set m (some (1, (mkI n rs.length).map iv))) := by
 have hself : ∀ b, (h.set m b)[m]? = some b := set_self hc1
 have hss : ∀ b b2, (h.set m b).set m b2 = h.set m b2 := fun b b2 => List.set_set ..
 have hlen : ∀ b, (h.set m b).length = h.length := fun b => List.length_set
 refine MC.of tab_ok Tryz.func65 rfl (Nat.le_of_ble_eq_true rfl) fun w0 S0 fs0 φ0 hφ0 hq0 => ?_
 change G _ _ ⟨[(0, .sl m 0 rs.length), (1, .int .i64 n)], _, 19⟩
 apply G.seq
 refine G.rg tab_ok (kof_nil _) (hk := ?_)
 apply G.seq
 apply G.seq
 refine G.rg tab_ok (kof_nil _) (hk := ?_)
 apply G.block
 refine G.fg [0, 1, 5] (hk := ?_)
 refine G.loopX (fun j : Nat => ⟨[(0, .sl m 0 rs.length), (1, .int .i64 (n + j)), (5, .int .i64 j)], h.set m (some (1, (upI n rs j).map iv)), 19⟩) (fun j => j ≤ rs.length) (fun j => rs.length - j) (0) (Nat.zero_le _) (by simp [upI_zero, set_same hc1]) ?_
 intro j hj J hJ
 have hw : IntKind.i64.wrap ((j : Int) + 1) = (j : Int) + 1 := wrap64 (by omega) (by omega)
 have hw2 : IntKind.i64.wrap (n + (j : Int) + 1) = n + (j : Int) + 1 := wrap64 (by omega) (by omega)
 apply G.seq
 apply G.seq
 refine G.rg tab_ok (kof_nil _) (hk := ?_)
 refine G.iff (h1 := fun h1 => ?_) (h2 := fun h1 => ?_)
 ·try simp only [zqz] at h1
  apply G.skip
  apply G.seq
  apply G.block
  apply G.seq
  have hg := upI_get n h1
  have hs := upI_set n h1
  refine G.rg tab_ok (kof_nil _) (hk := ?_)
  refine G.rg tab_ok (kof_nil _) (hk := ?_)
  apply G.blk
  refine G.rg tab_ok (kof_nil _) (hk := ?_)
  refine G.fg [0, 1, 5] (hk := ?_)
  exact G.upto (hJ (j + 1) (by omega) (by omega)) (by simp [Int.add_assoc])
 ·try simp only [zqz] at h1
  refine G.exit rfl ?_
  apply G.seq
  refine G.rg tab_ok (kof_nil _) (hk := ?_)
  obtain rfl : j = rs.length := by omega
  rw [upI_full]
  refine G.finM (junk := []) tab_ok (hr := ?_) (hh := ?_) (hq := ?_) (hl := ?_)
  ·rfl
  ·simp
  ·rw [List.length_set]; exact hrefs_pure hq0 (pureLL_iv _)
  ·rw [List.length_set, hφ0]; exact Nat.le_refl _
def mkP (n : Int) (k : Nat) : List I4 := (List.range k).map fun (j : Nat) => (n + 4 * (j : Int), n + 4 * (j : Int) + 1, n + 4 * (j : Int) + 1 + 1, n + 4 * (j : Int) + 1 + 1 + 1)
def upP (n : Int) (l : List I4) (j : Nat) : List I4 := mkP n j ++ l.drop j
theorem mkP_len (n : Int) (k : Nat) : (mkP n k).length = k := by simp [mkP]
theorem upP_zero (n : Int) (l : List I4) : upP n l 0 = l := by simp [upP, mkP]
theorem upP_full (n : Int) (l : List I4) : upP n l l.length = mkP n l.length := by simp [upP]
theorem upP_get (n : Int) {l : List I4} {j : Nat} (h : j < l.length) : ((upP n l j).map insv)[j]? = some [.int .i64 (l.getD j default).1, .int .i64 (l.getD j default).2.1, .int .i64 (l.getD j default).2.2.1, .int .i64 (l.getD j default).2.2.2] := by
 unfold upP
 rw [List.getElem?_map, List.getElem?_append_right (by rw [mkP_len]; omega), mkP_len]
 simp [insv, h]
theorem upP_set (n : Int) {l : List I4} {j : Nat} (h : j < l.length) : ((upP n l j).map insv).set j [.int .i64 (n + 4 * j), .int .i64 (n + 4 * j + 1), .int .i64 (n + 4 * j + 1 + 1), .int .i64 (n + 4 * j + 1 + 1 + 1)] = (upP n l (j + 1)).map insv := by
 have e : [A.int .i64 (n + 4 * (j : Int)), .int .i64 (n + 4 * j + 1), .int .i64 (n + 4 * j + 1 + 1), .int .i64 (n + 4 * j + 1 + 1 + 1)] = insv (n + 4 * (j : Int), n + 4 * (j : Int) + 1, n + 4 * (j : Int) + 1 + 1, n + 4 * (j : Int) + 1 + 1 + 1) := rfl
 rw [e, ← List.map_set]
 congr 1
 unfold upP
 rw [List.set_append_right _ _ (by rw [mkP_len]; omega), mkP_len, Nat.sub_self, List.drop_eq_getElem_cons h, List.set_cons_zero]
 simp [mkP, List.range_succ]
theorem row_self {x : List (List A)} {j : Nat} {e : List A} (h : x[j]? = some e) (e2 : List A) : (x.set j e2)[j]? = some e2 := List.getElem?_set_self (List.getElem?_eq_some_iff.1 h).1
theorem markInstrS_mc (h : Heap) (m : Nat) (l : List I4) (n : Int) (hc1 : h[m]? = some (some (4, l.map insv))) (hc2 : 0 ≤ n) (hc3 : n ≤ 1099511627776) (hc4 : l.length < 1099511627776) : MC Tryz.prog 64 h [.sl m 0 l.length, .int .i64 n] (.int .i64 (n + 4 * l.length)) (h.set m (some (4, (mkP n l.length).map insv))) := by
 have hself : ∀ b, (h.set m b)[m]? = some b := set_self hc1
 have hss : ∀ b b2, (h.set m b).set m b2 = h.set m b2 := fun b b2 => List.set_set ..
 have hlen : ∀ b, (h.set m b).length = h.length := fun b => List.length_set
 refine MC.of tab_ok Tryz.func64 rfl (Nat.le_of_ble_eq_true rfl) fun w0 S0 fs0 φ0 hφ0 hq0 => ?_
 change G _ _ ⟨[(0, .sl m 0 l.length), (1, .int .i64 n)], _, 41⟩
 apply G.seq
 refine G.rg tab_ok (kof_nil _) (hk := ?_)
 apply G.seq
 apply G.seq
 refine G.rg tab_ok (kof_nil _) (hk := ?_)
 apply G.block
 refine G.fg [0, 1, 5] (hk := ?_)
 refine G.loopX (fun j : Nat => ⟨[(0, .sl m 0 l.length), (1, .int .i64 (n + 4 * j)), (5, .int .i64 j)], h.set m (some (4, (upP n l j).map insv)), 41⟩) (fun j => j ≤ l.length) (fun j => l.length - j) (0) (Nat.zero_le _) (by simp [upP_zero, set_same hc1]) ?_
 intro j hj J hJ
 have hw : IntKind.i64.wrap ((j : Int) + 1) = (j : Int) + 1 := wrap64 (by omega) (by omega)
 have hw1 : IntKind.i64.wrap (n + 4 * (j : Int) + 1) = n + 4 * (j : Int) + 1 := wrap64 (by omega) (by omega)
 have hw2 : IntKind.i64.wrap (n + 4 * (j : Int) + 1 + 1) = n + 4 * (j : Int) + 1 + 1 := wrap64 (by omega) (by omega)
 have hw3 : IntKind.i64.wrap (n + 4 * (j : Int) + 1 + 1 + 1) = n + 4 * (j : Int) + 1 + 1 + 1 := wrap64 (by omega) (by omega)
 have hw4 : IntKind.i64.wrap (n + 4 * (j : Int) + 1 + 1 + 1 + 1) = n + 4 * (j : Int) + 1 + 1 + 1 + 1 := wrap64 (by omega) (by omega)
 apply G.seq
 apply G.seq
 refine G.rg tab_ok (kof_nil _) (hk := ?_)
 refine G.iff (h1 := fun h1 => ?_) (h2 := fun h1 => ?_)
 ·try simp only [zqz] at h1
  apply G.skip
  apply G.seq
  apply G.block
  apply G.seq
  have hg := upP_get n h1
  have hs := upP_set n h1
  have hr1 := row_self hg
  have hr2 : ∀ e e2 : List A, (((upP n l j).map insv).set j e).set j e2 = ((upP n l j).map insv).set j e2 := fun _ _ => List.set_set ..
  refine G.rg tab_ok (kof_nil _) (hk := ?_)
  apply G.seq
  refine G.rg tab_ok (kof_nil _) (hk := ?_)
  apply G.seq
  refine G.rg tab_ok (kof_nil _) (hk := ?_)
  apply G.seq
  refine G.rg tab_ok (kof_nil _) (hk := ?_)
  apply G.seq
  refine G.rg tab_ok (kof_nil _) (hk := ?_)
  apply G.seq
  refine G.rg tab_ok (kof_nil _) (hk := ?_)
  apply G.seq
  refine G.fg [0, 1, 5] (hk := ?_)
  refine G.rg tab_ok (kof_nil _) (hk := ?_)
  refine G.rg tab_ok (kof_nil _) (hk := ?_)
  apply G.blk
  refine G.rg tab_ok (kof_nil _) (hk := ?_)
  refine G.fg [0, 1, 5] (hk := ?_)
  have e4 : n + 4 * (j : Int) + 1 + 1 + 1 + 1 = n + 4 * ((j + 1 : Nat) : Int) := by omega
  exact G.upto (hJ (j + 1) (by omega) (by omega)) (by rw [e4]; simp)
 ·try simp only [zqz] at h1
  refine G.exit rfl ?_
  apply G.seq
  refine G.rg tab_ok (kof_nil _) (hk := ?_)
  obtain rfl : j = l.length := by omega
  rw [upP_full]
  refine G.finM (junk := []) tab_ok (hr := ?_) (hh := ?_) (hq := ?_) (hl := ?_)
  ·rfl
  ·simp
  ·rw [List.length_set]; exact hrefs_pure hq0 (pureLL_insv _)
  ·rw [List.length_set, hφ0]; exact Nat.le_refl _
theorem en_markIntS : Enters Tryz.prog 65 := enters_of Tryz.func65 rfl rfl
theorem en_markInstrS : Enters Tryz.prog 64 := enters_of Tryz.func64 rfl rfl
def heldI (n : Int) (rs : List Int) : Int := if rs = mkI n rs.length then n + rs.length else -1
theorem mkI_get {n : Int} {k j : Nat} (h : j < k) : (mkI n k).getD j default = n + j := by simp [mkI, h]
theorem heldI_no {n : Int} {rs : List Int} {j : Nat} (hj : j < rs.length) (h : rs.getD j default ≠ n + j) : heldI n rs = -1 := by
 unfold heldI
 rw [if_neg]
 intro e
 apply h
 have := mkI_get (n := n) hj
 rw [← e] at this
 exact this
theorem heldI_yes {n : Int} {rs : List Int} (h : ∀ j < rs.length, rs.getD j default = n + (j : Int)) : heldI n rs = n + rs.length := by
 unfold heldI
 rw [if_pos]
 apply List.ext_getElem (by rw [mkI_len])
 intro j h1 h2
 have := h j h1
 have e := mkI_get (n := n) h1
 simp only [List.getD_eq_getElem?_getD, List.getElem?_eq_getElem h1, List.getElem?_eq_getElem h2, Option.getD_some] at this e
 rw [this, e]
theorem held_upto {rs : List Int} {n : Int} {i : Nat} (h : ∀ j < i, rs.getD j default = n + (j : Int)) (h2 : rs.getD i default = n + (i : Int)) : ∀ j < i + 1, rs.getD j default = n + (j : Int) := by
 intro j hj
 by_cases e : j = i
 ·rw [e]; exact h2
 ·exact h j (by omega)
theorem heldIntS_ac (rs : List Int) (n : Int) (hc1 : 0 ≤ n) (hc2 : n ≤ 1099511627776) (hc3 : rs.length < 1099511627776) : AC Tryz.prog 66 [.row false 1 (rs.map iv), .int .i64 n] (.int .i64 (heldI n rs)) := by
 refine AC.of tab_ok Tryz.func66 rfl (Nat.le_of_ble_eq_true rfl) fun w0 S0 => ?_
 change G _ _ ⟨[(0, .row false 1 (rs.map iv)), (1, .int .i64 n)], [], 21⟩
 apply G.seq
 refine G.rg tab_ok (kof_nil _) (hk := ?_)
 apply G.seq
 apply G.seq
 refine G.rg tab_ok (kof_nil _) (hk := ?_)
 apply G.block
 refine G.cn [0, 1, 5] [] (h := ?_)
 refine G.loopX (fun j : Nat => ⟨[(0, .row false 1 (rs.map iv)), (1, .int .i64 (n + j)), (5, .int .i64 j)], [], 21⟩) (fun j => j ≤ rs.length ∧ ∀ k < j, rs.getD k default = n + (k : Int)) (fun j => rs.length - j) (0) (⟨Nat.zero_le _, by omega⟩) (by simp) ?_
 intro j hj J hJ
 obtain ⟨hj, hall⟩ := hj
 have hw : IntKind.i64.wrap ((j : Int) + 1) = (j : Int) + 1 := wrap64 (by omega) (by omega)
 have hw2 : IntKind.i64.wrap (n + (j : Int) + 1) = n + (j : Int) + 1 := wrap64 (by omega) (by omega)
 apply G.seq
 apply G.seq
 refine G.rg tab_ok (kof_nil _) (hk := ?_)
 refine G.iff (h1 := fun h1 => ?_) (h2 := fun h1 => ?_)
 ·try simp only [zqz] at h1
  apply G.skip
  apply G.seq
  apply G.block
  apply G.seq
  apply G.seq
  refine G.rg tab_ok (kof_nil _) (hk := ?_)
  refine G.fg [0, 1, 5, 17] (hk := ?_)
  refine G.iff (h1 := fun h2 => ?_) (h2 := fun h2 => ?_)
  ·try simp only [zqz] at h2
   apply G.seq
   refine G.rg tab_ok (kof_nil _) (hk := ?_)
   refine G.fin tab_ok (hr := ?_)
   simp only [oneOrTup]
   congr 1
   exact (heldI_no h1 h2).symm
  ·try simp only [zqz] at h2
   apply G.skip
   refine G.rg tab_ok (kof_nil _) (hk := ?_)
   apply G.blk
   refine G.rg tab_ok (kof_nil _) (hk := ?_)
   refine G.cn [0, 1, 5] [] (h := ?_)
   exact G.upto (hJ (j + 1) ⟨by omega, held_upto hall h2⟩ (by omega)) (by simp [Int.add_assoc])
 ·try simp only [zqz] at h1
  refine G.exit rfl ?_
  apply G.seq
  refine G.rg tab_ok (kof_nil _) (hk := ?_)
  obtain rfl : j = rs.length := by omega
  refine G.fin tab_ok (hr := ?_)
  simp only [oneOrTup]
  congr 1
  exact (heldI_yes hall).symm
def r_heldIntS (xs0 : List A) (rr : A) : Prop := ∃ (rs : List Int) (n : Int), (0 ≤ n) ∧ (n ≤ 1099511627776) ∧ (rs.length < 1099511627776) ∧ xs0 = [.row false 1 (rs.map iv), .int .i64 n] ∧ rr = .int .i64 (heldI n rs)
noncomputable def q_heldIntS : List A → Option A := kgr r_heldIntS
theorem k_heldIntS : KOk Tryz.prog (66, q_heldIntS) := kgr_ok (enters_of Tryz.func66 rfl rfl) (by rintro xs0 rr ⟨rs, n, hc1, hc2, hc3, rfl, rfl⟩; exact heldIntS_ac rs n hc1 hc2 hc3)
theorem e_heldIntS : ∀ (rs : List Int) (n : Int), (0 ≤ n) → (n ≤ 1099511627776) → (rs.length < 1099511627776) → q_heldIntS [.row false 1 (rs.map iv), .int .i64 n] = some (.int .i64 (heldI n rs)) := by
 intro rs n hc1 hc2 hc3
 refine kgr_eq (fun xs0 rr r2 h h2 => ?_) ⟨rs, n, hc1, hc2, hc3, rfl, rfl⟩
 obtain ⟨rs1, n1, _, _, _, e1, rfl⟩ := h; obtain ⟨rs2, n2, _, _, _, e2, rfl⟩ := h2
 rw [e1] at e2
 simp only [List.cons.injEq, A.int.injEq, A.bool.injEq, A.agg.injEq, A.row.injEq, A.fn.injEq, A.rp.injEq, insv_inj, iv_inj, true_and, and_true] at e2
 simp [e2]
-- not in this seat: heldActor
-- not in this seat: markActor
-- not in this seat: markProgram
-- not in this seat: heldInstrS
end Go.Proofs.YtdcjlemkegifjaaGreat.Ab
