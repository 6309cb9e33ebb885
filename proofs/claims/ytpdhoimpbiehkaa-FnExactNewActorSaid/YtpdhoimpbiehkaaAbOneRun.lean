/- One operation that leaves the memory alone: the machine does what the abstract values say. -/
import Derived.Test.YtpdhoimpbiehkaaAbOne
namespace Go.Proofs.Ytpdhoimpbiehkaa.Ab
open Go
set_option linter.unusedVariables false
set_option linter.unusedSimpArgs false

section
variable {P : Program} {T : Tab} {S0 : Nat → Prop} {st : St} {a : Act} {w : World} {φ : List (Option Loc)} {fs : List Nat}

theorem bsz_loc (h : SRel S0 st a w φ fs) {m sz : Nat} (hb : bsz st.heap m = some sz) : ∃ l : Loc, φ[m]? = some (some l) ∧ l.sz = sz := by
  unfold bsz at hb
  split at hb
  · rename_i b hm
    injection hb with hb
    obtain ⟨lo, f1, fb, f2, h1, h2, h3, h4⟩ := h.heap.at_ hm
    obtain ⟨sz', es⟩ := b
    cases lo with
    | none => exact h2.elim
    | some l => exact ⟨l, h1, h2.1.trans hb⟩
  · cases hb

theorem row_form {S : Nat → Prop} {sz : Nat} {es : List (List A)} {v : Value} (h : Rel w S φ (.row false sz es) v []) :
    ∃ ad cap, v = .slice ad es.length cap ∧ es.length ≤ cap ∧ ∀ (i : Nat), i < es.length → ∃ x vs, ad = some x ∧ (∀ e ∈ es, e.length = sz) ∧ RelL w S [] es.flatten vs [] ∧ (∀ (k : Nat) (v : Value), vs[k]? = some v → w.cell? (x.add k) = some v ∧ ¬ S x.block) := by
  cases h with
  | ro hu hr hc hl => exact ⟨_, _, rfl, hl, fun i hi => ⟨_, _, rfl, hu, hr, hc⟩⟩
  | ro0 sz a cap => exact ⟨_, _, rfl, Nat.zero_le _, fun i hi => absurd hi (by simp)⟩

theorem slice_row {S : Nat → Prop} {sz : Nat} {es : List (List A)} {ad : Option Addr} {cap : Nat} (h : Rel w S φ (.row false sz es) (.slice ad es.length cap) []) (l n : Nat) (hl : l ≤ n) (hn : n ≤ es.length) :
    Rel w S φ (.row false sz ((es.take n).drop l)) (.slice (if cap = l then ad else ad.map (·.add (l * sz))) (n - l) (cap - l)) [] := by
  obtain ⟨ad', cap', hv, hcap, hf⟩ := row_form h
  injection hv with e1 e2 e3
  subst e1 e3
  have hlen : ((es.take n).drop l).length = n - l := by simp; omega
  by_cases hz : n - l = 0
  · have : (es.take n).drop l = [] := List.eq_nil_of_length_eq_zero (by omega)
    rw [this, hz]
    exact .ro0 _ _ _
  · obtain ⟨x, vs, rfl, hu, hr, hc⟩ := hf l (by omega)
    rw [if_neg (by omega), ← hlen]
    refine .ro (vs := (vs.take (n * sz)).drop (l * sz)) (uni_drop (uni_take hu n) l) ?_ ?_ (by omega)
    · rw [← flat_drop (uni_take hu n), ← flat_take hu]
      exact (hr.take _).drop _
    · intro k v hk
      rw [add_add, add_block]
      rw [List.getElem?_drop] at hk
      have hk2 : vs[l * sz + k]? = some v := by
        by_cases hlt : l * sz + k < n * sz
        · rwa [List.getElem?_take_of_lt hlt] at hk
        · rw [List.getElem?_eq_none (by simp; omega)] at hk; cases hk
      exact hc _ _ hk2

theorem slice_sl {S : Nat → Prop} {m b len c : Nat} {ad : Option Addr} {l0 : Loc} (hm : φ[m]? = some (some l0)) (h : Rel w S φ (.sl m b len) (.slice ad len c) []) (l n : Nat) (hl : l ≤ n) (hn : n ≤ len) :
    Rel w S φ (.sl m (b + l) (n - l)) (.slice (if c = l then ad else ad.map (·.add (l * l0.sz))) (n - l) (c - l)) [] := by
  cases h with
  | sl hm' hlo hlen ha =>
    rename_i l1
    have : l1 = l0 := by rw [hm] at hm'; injection hm' with e; injection e with e; exact e.symm
    subst this
    refine .sl hm (by omega) (by omega) ?_
    intro hp
    rw [if_neg (by omega), ha (by omega), Option.map_some, add_mk, Nat.add_mul]
    simp [Nat.add_assoc]

theorem aload_run {S : Nat → Prop} {t : Nat} {i : TI} (hi : i.fits P t = true) {cs : List A} {vs : List Value} {x : A} (hx : aload i.kind.agg cs = some x) (hr : RelL w S φ cs vs []) (hn : cs.length = i.size) {ad : Addr}
    (hc : ∀ (k : Nat) (v : Value), vs[k]? = some v → w.cell? (ad.add k) = some v) : ∃ v, (loadVar t ad).run P w = .ok v w ∧ Rel w S φ x v [] := by
  unfold aload at hx
  by_cases hg : i.kind.agg = true
  · rw [if_pos hg] at hx
    injection hx with hx
    subst hx
    refine ⟨.agg vs.toArray, ?_, .agg hr⟩
    have hl := run_loadCells_list (P := P) w ad vs hc
    rw [← hr.length, hn] at hl
    simp [loadVar, Sem.run_bind, run_isAgg_fit hi, hg, run_sizeOf_fit hi, hl]
  · rw [if_neg hg] at hx
    split at hx
    · injection hx with hx
      subst hx
      obtain ⟨v, h1, h2⟩ := hr.none_at (k := 0) rfl
      refine ⟨v, ?_, h2⟩
      have := hc 0 v h1
      have h0 : ad.add 0 = ad := by simp [Addr.add]
      rw [h0] at this
      simp [loadVar, Sem.run_bind, run_isAgg_fit hi, hg, load, Sem.run, this]
    · cases hx

theorem RelL.window {S : Nat → Prop} {as : List A} {vs : List Value} {f : List Nat} (h : RelL w S φ as vs f) (k n : Nat) :
    ∃ f1 f2 f3, f = f1 ++ (f2 ++ f3) ∧ RelL w S φ (as.take k) (vs.take k) f1 ∧ RelL w S φ ((as.drop k).take n) ((vs.drop k).take n) f2 ∧ RelL w S φ ((as.drop k).drop n) ((vs.drop k).drop n) f3 := by
  have h0 : RelL w S φ (as.take k ++ as.drop k) vs f := by rwa [List.take_append_drop]
  obtain ⟨u1, u2, f1, g, e1, e2, r1, r2⟩ := h0.split
  have h1 : RelL w S φ ((as.drop k).take n ++ (as.drop k).drop n) u2 g := by rwa [List.take_append_drop]
  obtain ⟨u3, u4, f2, f3, e3, e4, r3, r4⟩ := h1.split
  have l1 := r1.length
  have l3 := r3.length
  have hl := h.length
  have l2 := r2.length
  have c1 : vs.take k = u1 := by
    rw [e1]
    simp only [List.length_take] at l1
    by_cases hk : k ≤ as.length
    · rw [List.take_append_of_le_length (by omega), List.take_of_length_le (by omega)]
    · have : u2 = [] := List.eq_nil_of_length_eq_zero (by rw [← l2]; simp; omega)
      rw [this, List.append_nil, List.take_of_length_le (by omega)]
  have c2 : vs.drop k = u2 := by
    have := List.take_append_drop k vs
    rw [c1] at this
    rw [e1] at this
    have h2 := List.append_cancel_left this
    rw [← e1] at h2
    exact h2
  have c3 : u2.take n = u3 := by
    rw [e3]
    simp only [List.length_take] at l3
    by_cases hk : n ≤ (as.drop k).length
    · rw [List.take_append_of_le_length (by omega), List.take_of_length_le (by omega)]
    · have : u4 = [] := List.eq_nil_of_length_eq_zero (by rw [← r4.length]; simp at hk ⊢; omega)
      rw [this, List.append_nil, List.take_of_length_le (by omega)]
  have c4 : u2.drop n = u4 := by
    have := List.take_append_drop n u2
    rw [c3] at this
    rw [e3] at this
    have h2 := List.append_cancel_left this
    rw [← e3] at h2
    exact h2
  exact ⟨f1, f2, f3, by rw [e2, e4], by rw [c1]; exact r1, by rw [c2, c3]; exact r3, by rw [c2, c4]; exact r4⟩
theorem notOwn_nil {S : Nat → Prop} {as : List A} {vs : List Value} {f : List Nat} (h : RelL w S φ as vs f) (hn : as.all notOwn = true) : f = [] := by
  induction as generalizing vs f with
  | nil => cases h; rfl
  | cons a as ih =>
    cases h with
    | cons h hs =>
      simp only [List.all_cons, Bool.and_eq_true] at hn
      rw [ih hs hn.2, List.append_nil]
      have := hn.1
      cases h <;> simp_all [notOwn]
theorem flat_sub {α : Type} {es : List (List α)} {sz i j n : Nat} {e : List α} (hu : ∀ e ∈ es, e.length = sz) (hi : es[i]? = some e) (hj : j + n ≤ sz) : (es.flatten.drop (i * sz + j)).take n = (e.drop j).take n := by
  obtain ⟨hlt, he⟩ := List.getElem?_eq_some_iff.1 hi
  have hl : e.length = sz := hu _ (by rw [← he]; exact List.getElem_mem hlt)
  rw [← List.drop_drop, flat_drop hu, List.drop_eq_getElem_cons hlt, List.flatten_cons, he, List.drop_append_of_le_length (by omega), List.take_append_of_le_length (by simp; omega)]
/-- Cells read through a place of a row that is read alone. -/
theorem rd_ro {S : Nat → Prop} {sz : Nat} {es : List (List A)} {r j n : Nat} {p : Value} {cs : List A} (h : Rel w S φ (.rp sz es r j) p []) (hr : rdCells es r j n = some cs) :
    ∃ ad vs, p = .pointer (some ad) ∧ cs.length = n ∧ RelL w S φ cs vs [] ∧ (∀ (k : Nat) (v : Value), vs[k]? = some v → w.cell? (ad.add k) = some v) := by
  cases h with
  | rp hu hrl hc =>
    rename_i vs ad
    unfold rdCells at hr
    split at hr
    · rename_i e he
      split at hr
      · rename_i hl
        obtain ⟨hl, hn⟩ := hl
        injection hr with hr
        subst hr
        have hes : e.length = sz := hu _ (List.mem_of_getElem? he)
        have hjn : j + n ≤ sz := by simp at hl; omega
        obtain ⟨f1, f2, f3, e1, _, h2, _⟩ := hrl.window (r * sz + j) n
        have := List.append_eq_nil_iff.1 e1.symm
        have := List.append_eq_nil_iff.1 this.2
        rw [this.1, flat_sub hu he hjn] at h2
        refine ⟨_, _, rfl, hl, h2.up, fun k v hk => ?_⟩
        rw [add_add]
        have hk2 : vs[r * sz + j + k]? = some v := by
          by_cases hlt : k < n
          · rwa [List.getElem?_take_of_lt hlt, List.getElem?_drop] at hk
          · rw [List.getElem?_eq_none (by simp; omega)] at hk; cases hk
        exact (hc _ _ hk2).1
      · cases hr
    · cases hr
/-- Cells read through a place of a block of the call's own. -/
theorem rd_ptr (h : SRel S0 st a w φ fs) {m r j n : Nat} {p : Value} {cs : List A} (hp : Rel w (Sof S0 fs) φ (.ptr m r j) p []) (hr : rdCells (bes st.heap m) r j n = some cs) (ho : cs.all notOwn = true) :
    ∃ ad vs, p = .pointer (some ad) ∧ cs.length = n ∧ RelL w (Sof S0 fs) φ cs vs [] ∧ (∀ (k : Nat) (v : Value), vs[k]? = some v → w.cell? (ad.add k) = some v) := by
  cases hp with
  | ptr hm =>
    rename_i l
    unfold bes at hr
    split at hr
    · rename_i b hb
      obtain ⟨lo, f1, fb, f2, h1, h2, h3, h4⟩ := h.heap.at_ hb
      rw [hm] at h1
      injection h1 with h1
      subst h1
      obtain ⟨sz, es⟩ := b
      obtain ⟨hz, h2⟩ := h2
      unfold rdCells at hr
      split at hr
      · rename_i e he
        split at hr
        · rename_i hl
          obtain ⟨hl, hn⟩ := hl
          injection hr with hr
          subst hr
          rcases h2 with h2 | ⟨arr, ty, vs, f0, rfl, q1, q2, hu, hrl, hc, q6⟩
          · rw [h2.2.1] at he; simp at he
          · have hes : e.length = sz := hu _ (List.mem_of_getElem? he)
            have hjn : j + n ≤ sz := by simp at hl; omega
            obtain ⟨g1, g2, g3, e1, _, r2, _⟩ := hrl.window (r * sz + j) n
            rw [flat_sub hu he hjn] at r2
            rw [notOwn_nil r2 ho] at r2
            refine ⟨_, _, rfl, hl, r2, fun k v hk => ?_⟩
            have hk2 : vs[r * sz + j + k]? = some v := by
              by_cases hlt : k < n
              · rwa [List.getElem?_take_of_lt hlt, List.getElem?_drop] at hk
              · rw [List.getElem?_eq_none (by simp; omega)] at hk; cases hk
            rw [add_mk, hz]
            simp only [World.cell?, q1]
            rw [← hc _ _ hk2]
            simp [Nat.add_assoc]
        · cases hr
      · cases hr
    · unfold rdCells at hr; simp at hr
end
end Go.Proofs.Ytpdhoimpbiehkaa.Ab
