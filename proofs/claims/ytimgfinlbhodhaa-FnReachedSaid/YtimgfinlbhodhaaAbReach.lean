/- What is reached from a process: two ways that agree. Plain definitions and lemmas. -/
import Derived.Test.YtimgfinlbhodhaaAbPerm2
namespace Go.Proofs.Ytimgfinlbhodhaa.Ab
open Go
set_option linter.unusedVariables false
set_option linter.unusedSimpArgs false
set_option linter.unusedSectionVars false
inductive Rch (ks : List LK) (p : Int) : Int → Prop
  | base (x : LK) (hx : x ∈ ks) (h : x.fr = p) (h0 : 0 ≤ x.to) : Rch ks p x.to
  | step (a : Int) (ha : Rch ks p a) (x : LK) (hx : x ∈ ks) (h : x.fr = a) (h0 : 0 ≤ x.to) : Rch ks p x.to
theorem Rch.pos {ks : List LK} {p b : Int} (h : Rch ks p b) : 0 ≤ b := by cases h <;> assumption
def condM (p : Int) (m : List Bool) (x : LK) : Bool := decide (x.fr ≥ 0) && decide (x.to ≥ 0) && ((x.fr == p) || m.getD x.fr.toNat default)
def mst (p : Int) (m : List Bool) (x : LK) : List Bool := if condM p m x = true then m.set x.to.toNat true else m
def mlU (p : Int) (ks : List LK) (m : List Bool) : Nat → List Bool
  | 0 => m
  | j + 1 => mst p (mlU p ks m j) (ks.getD j default)
def mN (p : Int) (ks : List LK) (n : Nat) : Nat → List Bool
  | 0 => List.replicate n false
  | j + 1 => mlU p ks (mN p ks n j) ks.length
def cntB : List Bool → Nat
  | [] => 0
  | b :: m => (if b = true then 1 else 0) + cntB m
section
variable {p : Int} {ks : List LK} {n : Nat} {m : List Bool}
theorem mst_len (x : LK) : (mst p m x).length = m.length := by unfold mst; split <;> simp
theorem mlU_len (j : Nat) : (mlU p ks m j).length = m.length := by
  induction j with
  | zero => rfl
  | succ j ih => rw [mlU, mst_len, ih]
theorem mN_len (j : Nat) : (mN p ks n j).length = n := by
  induction j with
  | zero => simp [mN]
  | succ j ih => rw [mN, mlU_len, ih]
theorem cntB_le (m : List Bool) : cntB m ≤ m.length := by
  induction m with
  | nil => exact Nat.le_refl _
  | cons b m ih => simp only [cntB, List.length_cons]; split <;> omega
theorem cntB_full {m : List Bool} (h : m.length ≤ cntB m) : ∀ k < m.length, m.getD k default = true := by
  induction m with
  | nil => intro k hk; simp at hk
  | cons b m ih =>
    have := cntB_le m
    simp only [cntB, List.length_cons] at h
    intro k hk
    cases b with
    | false => simp at h; omega
    | true =>
      cases k with
      | zero => rfl
      | succ k =>
        rw [List.getD_cons_succ]
        exact ih (by simp at h; omega) k (by simpa using hk)
theorem cntB_set {m : List Bool} {i : Nat} (hi : i < m.length) (h : m.getD i default = false) : cntB (m.set i true) = cntB m + 1 := by
  induction m generalizing i with
  | nil => simp at hi
  | cons b m ih =>
    cases i with
    | zero =>
      rw [List.getD_cons_zero] at h
      subst h
      simp [cntB, Nat.add_comm]
    | succ i =>
      rw [List.getD_cons_succ] at h
      rw [List.set_cons_succ, cntB, cntB, ih (by simpa using hi) h]
      omega
theorem set_true {m : List Bool} {i : Nat} (hi : i < m.length) (h : m.getD i default = true) : m.set i true = m := by
  rw [← h]
  exact set_getD hi
def RngK (ks : List LK) (n : Nat) : Prop := ∀ x ∈ ks, x.fr < (n : Int) ∧ x.to < (n : Int)
theorem rng_of {ps : List PG} (h : netOk ps ks = true) : RngK ks ps.length := fun x hx => by
  obtain ⟨j, hj, rfl⟩ := List.getElem_of_mem hx
  have := linkOk_ends ((netOk_w h).lk j hj)
  rw [List.getD_eq_getElem?_getD, List.getElem?_eq_getElem hj, Option.getD_some] at this
  simp only [endsOk, Bool.and_eq_true, inR, decide_eq_true_eq] at this
  omega
theorem mst_cases (hr : RngK ks m.length) {x : LK} (hx : x ∈ ks) : mst p m x = m ∨ cntB (mst p m x) = cntB m + 1 := by
  unfold mst
  split
  · rename_i hc
    have h2 := hr x hx
    simp only [condM, Bool.and_eq_true, decide_eq_true_eq] at hc
    have hi : x.to.toNat < m.length := by omega
    cases h : m.getD x.to.toNat default with
    | true => exact .inl (set_true hi h)
    | false => exact .inr (cntB_set hi h)
  · exact .inl rfl
theorem mlU_cnt (hr : RngK ks m.length) : ∀ j, j ≤ ks.length → cntB m ≤ cntB (mlU p ks m j) ∧ (cntB (mlU p ks m j) = cntB m → ∀ i ≤ j, mlU p ks m i = m)
  | 0, _ => ⟨Nat.le_refl _, fun _ i hi => by have e : i = 0 := (by omega); rw [e]; rfl⟩
  | j + 1, hj => by
    obtain ⟨h1, h2⟩ := mlU_cnt hr j (by omega)
    have hx : ks.getD j default ∈ ks := getD_mem0 (by omega)
    have hc := mst_cases (p := p) (m := mlU p ks m j) (by rw [mlU_len]; exact hr) hx
    rw [mlU]
    rcases hc with hc | hc
    · rw [hc]
      refine ⟨h1, fun he i hi => ?_⟩
      by_cases e : i = j + 1
      · rw [e, mlU, hc]; exact h2 he j (Nat.le_refl _)
      · exact h2 he i (by omega)
    · rw [hc]
      exact ⟨by omega, fun he => by omega⟩
def ClM (p : Int) (ks : List LK) (m : List Bool) : Prop := ∀ x ∈ ks, condM p m x = true → m.getD x.to.toNat default = true
theorem cl_mst (h : ClM p ks m) (hr : RngK ks m.length) {x : LK} (hx : x ∈ ks) : mst p m x = m := by
  unfold mst
  split
  · rename_i hc
    have h2 := hr x hx
    have h3 := h x hx hc
    simp only [condM, Bool.and_eq_true, decide_eq_true_eq] at hc
    exact set_true (by omega) h3
  · rfl
theorem cl_mlU (h : ClM p ks m) (hr : RngK ks m.length) : ∀ j, j ≤ ks.length → mlU p ks m j = m
  | 0, _ => rfl
  | j + 1, hj => by rw [mlU, cl_mlU h hr j (by omega)]; exact cl_mst h hr (getD_mem0 (by omega))
theorem fix_cl (hr : RngK ks m.length) (h : cntB (mlU p ks m ks.length) = cntB m) : ClM p ks m := by
  have hf := (mlU_cnt (p := p) hr ks.length (Nat.le_refl _)).2 h
  intro x hx hc
  obtain ⟨j, hj, e⟩ := List.getElem_of_mem hx
  have e2 : ks.getD j default = x := by simpa [List.getD_eq_getElem?_getD, hj] using e
  have h1 := hf (j + 1) (by omega)
  rw [mlU, hf j (by omega), e2] at h1
  unfold mst at h1
  rw [if_pos hc] at h1
  have h2 := hr x hx
  simp only [condM, Bool.and_eq_true, decide_eq_true_eq] at hc
  have hi : x.to.toNat < m.length := by omega
  rw [← h1]
  exact gset_self hi
theorem mN_cl (hr : RngK ks n) : ∀ j, ClM p ks (mN p ks n j) ∨ j ≤ cntB (mN p ks n j)
  | 0 => .inr (Nat.zero_le _)
  | j + 1 => by
    have hr' : RngK ks (mN p ks n j).length := by rw [mN_len]; exact hr
    rcases mN_cl hr j with h | h
    · left; rw [mN, cl_mlU h hr' _ (Nat.le_refl _)]; exact h
    · by_cases he : cntB (mlU p ks (mN p ks n j) ks.length) = cntB (mN p ks n j)
      · have hc := fix_cl hr' he
        left; rw [mN, cl_mlU hc hr' _ (Nat.le_refl _)]; exact hc
      · have := (mlU_cnt (p := p) hr' ks.length (Nat.le_refl _)).1
        right; rw [mN]; omega
theorem mN_closed (hr : RngK ks n) : ClM p ks (mN p ks n n) := by
  rcases mN_cl (p := p) hr n with h | h
  · exact h
  · intro x hx hc
    have h2 := hr x hx
    simp only [condM, Bool.and_eq_true, decide_eq_true_eq] at hc
    exact cntB_full (by rw [mN_len]; exact h) _ (by rw [mN_len]; omega)
def InvM (p : Int) (ks : List LK) (m : List Bool) : Prop := ∀ b, b < m.length → m.getD b default = true → Rch ks p (b : Int)
theorem inv_mst (h : InvM p ks m) (hr : RngK ks m.length) {x : LK} (hx : x ∈ ks) : InvM p ks (mst p m x) := by
  unfold mst
  split
  · rename_i hc
    have h2 := hr x hx
    simp only [condM, Bool.and_eq_true, Bool.or_eq_true, decide_eq_true_eq, beq_iff_eq] at hc
    intro b hb hm
    rw [List.length_set] at hb
    by_cases e : x.to.toNat = b
    · have e2 : (b : Int) = x.to := by omega
      rw [e2]
      rcases hc.2 with h3 | h3
      · exact .base x hx h3 hc.1.2
      · have h4 := h x.fr.toNat (by omega) h3
        rw [show ((x.fr.toNat : Nat) : Int) = x.fr by omega] at h4
        exact .step x.fr h4 x hx rfl hc.1.2
    · rw [gset_ne e] at hm
      exact h b hb hm
  · exact h
theorem inv_mlU (h : InvM p ks m) (hr : RngK ks m.length) : ∀ j, j ≤ ks.length → InvM p ks (mlU p ks m j)
  | 0, _ => h
  | j + 1, hj => inv_mst (inv_mlU h hr j (by omega)) (by rw [mlU_len]; exact hr) (getD_mem0 (by omega))
theorem inv_mN (hr : RngK ks n) : ∀ j, InvM p ks (mN p ks n j)
  | 0 => fun b hb hm => by
    rw [mN_len] at hb
    simp [mN, List.getD_eq_getElem?_getD, hb] at hm
  | j + 1 => inv_mlU (inv_mN hr j) (by rw [mN_len]; exact hr) _ (Nat.le_refl _)
theorem mN_iff (hr : RngK ks n) (hp : 0 ≤ p) {b : Nat} (hb : b < n) : (mN p ks n n).getD b default = true ↔ Rch ks p (b : Int) := by
  constructor
  · exact fun h => inv_mN hr n b (by rw [mN_len]; exact hb) h
  · intro h
    have key : ∀ c : Int, Rch ks p c → (mN p ks n n).getD c.toNat default = true := by
      intro c hc
      induction hc with
      | base x hx h h0 => exact mN_closed hr x hx (by simp only [condM, Bool.and_eq_true, Bool.or_eq_true, decide_eq_true_eq, beq_iff_eq]; exact ⟨⟨by omega, h0⟩, .inl h⟩)
      | step a ha x hx h h0 ih =>
        have := ha.pos
        refine mN_closed hr x hx ?_
        simp only [condM, Bool.and_eq_true, Bool.or_eq_true, decide_eq_true_eq, beq_iff_eq]
        exact ⟨⟨by omega, h0⟩, .inr (by rw [h]; exact ih)⟩
    simpa using key (b : Int) h
def trueU (m : List Bool) : Nat → List Int
  | 0 => []
  | j + 1 => if m.getD j default = true then trueU m j ++ [(j : Int)] else trueU m j
theorem trueU_len (m : List Bool) (j : Nat) : (trueU m j).length ≤ j := by
  induction j with
  | zero => exact Nat.le_refl _
  | succ j ih =>
    unfold trueU
    split
    · simp; omega
    · omega
theorem trueU_mem (m : List Bool) (j : Nat) (x : Int) : x ∈ trueU m j ↔ 0 ≤ x ∧ x < (j : Int) ∧ m.getD x.toNat default = true := by
  induction j with
  | zero =>
    simp only [trueU, List.not_mem_nil, false_iff]
    omega
  | succ j ih =>
    unfold trueU
    split
    · rename_i h
      rw [List.mem_append, ih, List.mem_singleton]
      constructor
      · rintro (⟨h0, h1, h2⟩ | rfl)
        · exact ⟨h0, by omega, h2⟩
        · exact ⟨by omega, by omega, by simpa using h⟩
      · rintro ⟨h0, h1, h2⟩
        by_cases e : x = (j : Int)
        · exact .inr e
        · exact .inl ⟨h0, by omega, h2⟩
    · rename_i h
      rw [ih]
      constructor
      · rintro ⟨h0, h1, h2⟩; exact ⟨h0, by omega, h2⟩
      · rintro ⟨h0, h1, h2⟩
        refine ⟨h0, ?_, h2⟩
        by_cases e : x = (j : Int)
        · subst e; rw [Int.toNat_natCast] at h2; exact absurd h2 h
        · omega
theorem trueU_lt (m : List Bool) (j : Nat) : (trueU m j).Pairwise (· < ·) := by
  induction j with
  | zero => exact List.Pairwise.nil
  | succ j ih =>
    unfold trueU
    split
    · rw [List.pairwise_append]
      refine ⟨ih, by simp, fun a ha b hb => ?_⟩
      rw [List.mem_singleton] at hb
      have := ((trueU_mem m j a).1 ha).2.1
      omega
    · exact ih
end
def sortI (l : List Int) : List Int := l.mergeSort
theorem sortI_perm (l : List Int) : (sortI l).Perm l := List.mergeSort_perm l _
theorem sortI_len (l : List Int) : (sortI l).length = l.length := (sortI_perm l).length_eq
theorem sortI_le (l : List Int) : (sortI l).Pairwise (· ≤ ·) := by
  have := List.pairwise_mergeSort (le := fun (a b : Int) => decide (a ≤ b)) (fun a b c h1 h2 => by simp only [decide_eq_true_eq] at *; omega) (fun a b => by simp only [Bool.or_eq_true, decide_eq_true_eq]; omega) l
  simpa [sortI] using this
theorem sortI_eq {l r : List Int} (hp : r.Perm l) (hs : r.Pairwise (· ≤ ·)) : sortI l = r :=
  List.Perm.eq_of_pairwise (le := (· ≤ ·)) (fun a b _ _ h1 h2 => by omega) (sortI_le l) hs ((sortI_perm l).trans hp.symm)
section
variable {ps : List PG} {ks : List LK} {p : Int}
def reachL (ps : List PG) (ks : List LK) (p : Int) : List Int := trueU (mN p ks ps.length ps.length) ps.length
def reachIn (ps : List PG) (ks : List LK) (p : Int) : Bool := netOk ps ks && hasP ps p
def reachO (ps : List PG) (ks : List LK) (p : Int) : List Int × Bool := if reachIn ps ks p = true then (reachL ps ks p, true) else ([], false)
theorem reachL_mem (hn : netOk ps ks = true) (hp : 0 ≤ p) (x : Int) : x ∈ reachL ps ks p ↔ Rch ks p x := by
  have hr := rng_of hn
  unfold reachL
  rw [trueU_mem]
  constructor
  · rintro ⟨h0, h1, h2⟩
    have := (mN_iff (p := p) hr hp (b := x.toNat) (by omega)).1 h2
    rwa [show ((x.toNat : Nat) : Int) = x by omega] at this
  · intro h
    have h0 := h.pos
    have h1 : x < (ps.length : Int) := by cases h with
      | base y hy _ _ => exact (hr y hy).2
      | step a ha y hy _ _ => exact (hr y hy).2
    refine ⟨h0, h1, (mN_iff (p := p) hr hp (b := x.toNat) (by omega)).2 ?_⟩
    rwa [show ((x.toNat : Nat) : Int) = x by omega]
theorem reach_sort (hn : netOk ps ks = true) (hp : 0 ≤ p) {out : List Int} (hd : out.Nodup) (hm : ∀ x, x ∈ out ↔ Rch ks p x) : sortI out = reachL ps ks p := by
  have hl := trueU_lt (mN p ks ps.length ps.length) ps.length
  refine sortI_eq ?_ (hl.imp (fun h => by omega))
  refine (List.perm_ext_iff_of_nodup (hl.imp (fun h => by omega)) hd).2 fun x => ?_
  rw [hm]
  exact reachL_mem hn hp x
theorem reachO_no (h : netOk ps ks = false ∨ hasP ps p = false) : reachO ps ks p = ([], false) := by
  unfold reachO reachIn
  rw [if_neg]
  intro hh
  rw [Bool.and_eq_true] at hh
  rcases h with h | h <;> rw [h] at hh <;> simp at hh
theorem reachO_yes (h : netOk ps ks = true) (h2 : hasP ps p = true) : reachO ps ks p = (reachL ps ks p, true) := by
  unfold reachO reachIn
  rw [h, h2, show (true && true) = true from rfl, if_pos rfl]
theorem reachO_len (ps : List PG) (ks : List LK) (p : Int) : (reachO ps ks p).1.length ≤ 12 := by
  unfold reachO
  split
  · rename_i h
    unfold reachIn at h
    rw [Bool.and_eq_true] at h
    have := (netOk_w h.1).pl
    have := trueU_len (mN p ks ps.length ps.length) ps.length
    show (trueU _ _).length ≤ 12
    omega
  · simp
end
section
variable {ks : List LK} {p : Int} {n : Nat}
structure BfW (ks : List LK) (p : Int) (n : Nat) (out row : List Int) : Prop where
  nd : out.Nodup
  rc : ∀ b ∈ out, Rch ks p b ∧ b < (n : Int)
  rw_ : ∀ a ∈ row, a = p ∨ a ∈ out
  cl : ∀ a, (a = p ∨ a ∈ out) → a ∈ row ∨ ∀ x ∈ ks, x.fr = a → 0 ≤ x.to → x.to ∈ out
theorem bf_zero : BfW ks p n [] [p] := ⟨List.nodup_nil, by simp, by simp, fun a h => by
  rcases h with rfl | h
  · exact .inl (by simp)
  · simp at h⟩
theorem bf_len {out row : List Int} (h : BfW ks p n out row) : out.length ≤ n := by
  have := nodup_sub_len (m := rowsN n) h.nd (fun x hx => rowsN_mem.2 ⟨(h.rc x hx).1.pos, (h.rc x hx).2⟩)
  rwa [rowsN_len] at this
theorem bf_add {out row : List Int} {x : LK} (h : BfW ks p n out row) (hr : RngK ks n) (hx : x ∈ ks) (hf : x.fr = p ∨ x.fr ∈ out) (h0 : 0 ≤ x.to) (hn : x.to ∉ out) : BfW ks p n (out ++ [x.to]) (row ++ [x.to]) := by
  refine ⟨?_, ?_, ?_, ?_⟩
  · rw [List.nodup_append]
    refine ⟨h.nd, by simp, fun a ha b hb => ?_⟩
    rw [List.mem_singleton] at hb
    intro e
    exact hn (by rw [← hb, ← e]; exact ha)
  · intro b hb
    rcases List.mem_append.1 hb with hb | hb
    · exact h.rc b hb
    · rw [List.mem_singleton] at hb
      subst hb
      refine ⟨?_, (hr x hx).2⟩
      rcases hf with hf | hf
      · exact .base x hx hf h0
      · exact .step x.fr (h.rc _ hf).1 x hx rfl h0
  · intro a ha
    rcases List.mem_append.1 ha with ha | ha
    · rcases h.rw_ a ha with h1 | h1
      · exact .inl h1
      · exact .inr (List.mem_append.2 (.inl h1))
    · exact .inr (List.mem_append.2 (.inr ha))
  · intro a ha
    have step : (a = p ∨ a ∈ out) → a ∈ row ++ [x.to] ∨ ∀ y ∈ ks, y.fr = a → 0 ≤ y.to → y.to ∈ out ++ [x.to] := fun hh => by
      rcases h.cl a hh with h1 | h1
      · exact .inl (List.mem_append.2 (.inl h1))
      · exact .inr fun y hy e1 e2 => List.mem_append.2 (.inl (h1 y hy e1 e2))
    rcases ha with ha | ha
    · exact step (.inl ha)
    · rcases List.mem_append.1 ha with ha | ha
      · exact step (.inr ha)
      · exact .inl (List.mem_append.2 (.inr ha))
theorem bf_pop {out row : List Int} {a : Int} (h : BfW ks p n out (a :: row)) (hd : ∀ x ∈ ks, x.fr = a → 0 ≤ x.to → x.to ∈ out) : BfW ks p n out row := by
  refine ⟨h.nd, h.rc, fun b hb => h.rw_ b (by simp [hb]), fun b hb => ?_⟩
  rcases h.cl b hb with h1 | h1
  · rcases List.mem_cons.1 h1 with rfl | h1
    · exact .inr hd
    · exact .inl h1
  · exact .inr h1
theorem bf_end {out : List Int} (h : BfW ks p n out []) (x : Int) : x ∈ out ↔ Rch ks p x := by
  constructor
  · exact fun hx => (h.rc x hx).1
  · intro hx
    have cl : ∀ a, (a = p ∨ a ∈ out) → ∀ y ∈ ks, y.fr = a → 0 ≤ y.to → y.to ∈ out := fun a ha => by
      rcases h.cl a ha with h1 | h1
      · simp at h1
      · exact h1
    induction hx with
    | base y hy e h0 => exact cl p (.inl rfl) y hy e h0
    | step a ha y hy e h0 ih => exact cl a (.inr ih) y hy e h0
end
section
variable {l r : List Int} {i j : Nat}
structure SrtW (l r : List Int) (i j : Nat) : Prop where
  pm : r.Perm l
  od : ∀ s t, s < t → t ≤ i → t ≠ j → r.getD s default ≤ r.getD t default
def SrtI (l r : List Int) (i : Nat) : Prop := r.Perm l ∧ ∀ s t, s < t → t < i → r.getD s default ≤ r.getD t default
theorem srt_begin (h : SrtI l r i) : SrtW l r i i := ⟨h.1, fun s t h1 h2 h3 => h.2 s t h1 (by omega)⟩
theorem srt_swap (h : SrtW l r i (j + 1)) (hji : j + 1 ≤ i) (hi : i < r.length) (hlt : r.getD (j + 1) default < r.getD j default) : SrtW l ((r.set (j + 1) (r.getD j default)).set j (r.getD (j + 1) default)) i j := by
  have h1 : j + 1 < r.length := by omega
  have h2 : j < r.length := by omega
  have e1 : r.getD j default = r[j] := by simp [List.getD_eq_getElem?_getD, h2]
  have e2 : r.getD (j + 1) default = r[j + 1] := by simp [List.getD_eq_getElem?_getD, h1]
  refine ⟨?_, ?_⟩
  · rw [e1, e2]
    exact (List.set_set_perm h1 h2).trans h.pm
  · have gj : ((r.set (j + 1) (r.getD j default)).set j (r.getD (j + 1) default)).getD j default = r.getD (j + 1) default := gset_self (by simpa using h2)
    have gj1 : ((r.set (j + 1) (r.getD j default)).set j (r.getD (j + 1) default)).getD (j + 1) default = r.getD j default := by
      rw [gset_ne (by omega)]; exact gset_self h1
    have go : ∀ k, k ≠ j → k ≠ j + 1 → ((r.set (j + 1) (r.getD j default)).set j (r.getD (j + 1) default)).getD k default = r.getD k default := fun k n1 n2 => by
      rw [gset_ne (Ne.symm n1), gset_ne (Ne.symm n2)]
    intro s t hst hti htj
    by_cases t1 : t = j + 1
    · subst t1
      rw [gj1]
      by_cases s1 : s = j
      · subst s1; rw [gj]; omega
      · rw [go s s1 (by omega)]
        exact h.od s j (by omega) (by omega) (by omega)
    · rw [go t htj t1]
      by_cases s1 : s = j
      · subst s1; rw [gj]; exact h.od (s + 1) t (by omega) hti t1
      · by_cases s2 : s = j + 1
        · subst s2; rw [gj1]; exact h.od j t (by omega) hti t1
        · rw [go s s1 s2]; exact h.od s t hst hti t1
theorem srt_stop (h : SrtW l r i j) (hs : j = 0 ∨ ∃ k, j = k + 1 ∧ r.getD k default ≤ r.getD j default) : SrtI l r (i + 1) := by
  refine ⟨h.pm, fun s t h1 h2 => ?_⟩
  by_cases e : t = j
  · subst e
    rcases hs with rfl | ⟨k, rfl, h3⟩
    · omega
    · by_cases e2 : s = k
      · subst e2; exact h3
      · have := h.od s k (by omega) (by omega) (by omega)
        omega
  · exact h.od s t h1 (by omega) e
theorem srt_end (h : SrtI l r i) (hi : r.length ≤ i) : sortI l = r := by
  refine sortI_eq h.1 ?_
  rw [List.pairwise_iff_getElem]
  intro a b ha hb hab
  have := h.2 a b hab (by omega)
  simpa [List.getD_eq_getElem?_getD, ha, hb] using this
theorem srt_zero (l : List Int) : SrtI l l 1 := ⟨List.Perm.refl _, fun s t h1 h2 => by omega⟩
end
end Go.Proofs.Ytimgfinlbhodhaa.Ab
