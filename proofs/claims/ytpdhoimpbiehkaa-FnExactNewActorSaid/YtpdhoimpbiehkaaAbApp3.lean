/- append: the operation. -/
import Derived.Test.YtpdhoimpbiehkaaAbApp2
namespace Go.Proofs.Ytpdhoimpbiehkaa.Ab
open Go
set_option linter.unusedVariables false
set_option linter.unusedSimpArgs false

section
variable {P : Program} {T : Tab} {S0 : Nat → Prop} {st : St} {a : Act} {w : World} {φ : List (Option Loc)} {fs : List Nat}

theorem copy_fp {S : Nat → Prop} {ys : List (List A)} {us : List Value} {f : List Nat} (h : RelL w S φ ys.flatten us f) (hc : ys.all (fun y => y.all copyable) = true) : f = [] ∧ ∀ u ∈ us, u.oneCell' = true := by
  have h1 : ys.flatten.all notOwn = true := by
    simp only [List.all_eq_true, copyable, Bool.and_eq_true, List.mem_flatten] at hc ⊢
    rintro c ⟨y, hy, hcy⟩
    exact (hc y hy c hcy).2
  have h2 : ys.flatten.all okc = true := by
    simp only [List.all_eq_true, copyable, Bool.and_eq_true, List.mem_flatten] at hc ⊢
    rintro c ⟨y, hy, hcy⟩
    exact (hc y hy c hcy).1
  exact ⟨notOwn_nil h h1, okc_all h h2⟩

theorem nextcap_le {need old bytes : Nat} (h : old < need) (hb : need * bytes ≤ 140737488355328) : Builtin.nextslicecap need old * bytes ≤ 281474976710656 := growslice_fits h hb

theorem fr_drew {T : Nat → Prop} {w w' : World} (h : Fr T w.drew w') : Fr T w w' := ⟨h.os, h.tape, h.output, h.size, h.block⟩

/-- Old and new cells in a new row. -/
theorem app_fresh (h : SRel S0 st a w φ fs) {base : Nat} {k : Option Nat} {f1 fk f2 : List Nat} (hsplit : fs = f1 ++ (fk ++ f2)) (hf : hfree st.heap φ base)
    (hk : ∃ h1 : Heap, h1 = (hkill st.heap k) ∧ hfree h1 φ base ∧ HRel w (Sof S0 fs) φ h1 φ (f1 ++ f2))
    {e : Nat} {i : TI} (hi : i.fits P e = true) {xs ys : List (List A)} {vs us : List Value} {f0 : List Nat} (hux : ∀ x ∈ xs, x.length = i.size) (huy : ∀ x ∈ ys, x.length = i.size)
    (hx : RelL w (Sof S0 fs) φ xs.flatten vs f0) (hy : RelL w (Sof S0 fs) φ ys.flatten us []) (hf0 : ∀ b ∈ f0, b ∈ fk) (hn0 : f0.Nodup) {cap : Nat} (hcap : xs.length + ys.length ≤ cap) (z : Array Value) (hz : z.size = i.size)
    (ty : TypeId) :
    ∃ fs' φ', SRel S0 { st with heap := hput (hkill st.heap k) base (i.size, xs ++ ys) } a (w.drew.alloc (.cells (vs.toArray ++ us.toArray ++ Builtin.zeroCells z (cap - (xs.length + ys.length))) ty)) φ' fs' ∧
      Fr (fun g => g ∈ fs) w (w.drew.alloc (.cells (vs.toArray ++ us.toArray ++ Builtin.zeroCells z (cap - (xs.length + ys.length))) ty)) ∧ (∀ b, b ∈ fs' → b ∈ fs ∨ w.heap.size ≤ b) ∧ Ext φ φ' ∧
      Rel (w.drew.alloc (.cells (vs.toArray ++ us.toArray ++ Builtin.zeroCells z (cap - (xs.length + ys.length))) ty)) (Sof S0 fs') φ' (.sl base 0 (xs ++ ys).length) (.slice (some ⟨w.heap.size, 0, none⟩) (xs.length + ys.length) cap) [] := by
  have hvl := hx.length
  have hul := hy.length
  rw [flat_len hux] at hvl
  rw [flat_len huy] at hul
  have hfr : Fr (fun _ => False) w (w.drew.alloc (.cells (vs.toArray ++ us.toArray ++ Builtin.zeroCells z (cap - (xs.length + ys.length))) ty)) :=
    ⟨rfl, rfl, rfl, by show _ ≤ (w.heap.push _).size; simp, fun b hb _ => heap_alloc_old w.drew _ b hb⟩
  have hsize : (vs.toArray ++ us.toArray ++ Builtin.zeroCells z (cap - (xs.length + ys.length))).size = cap * i.size := by
    simp only [Array.size_append, List.size_toArray, Builtin.zeroCells, Array.size_map, Array.size_range, hz, ← hvl, ← hul, ← Nat.add_mul]
    congr 1
    omega
  obtain ⟨fs', g1, g2, g3, g4, g5⟩ := h.swap (base := base) (k := k) hf hsplit hk (l := ⟨w.heap.size, 0, cap, i.size⟩) (b := (i.size, xs ++ ys)) (fb := w.heap.size :: f0) hfr (fun _ h => h.elim)
    (by
      intro b hb
      rcases List.mem_cons.1 hb with rfl | hb
      · exact .inr (Nat.le_refl _)
      · exact .inl (hf0 b hb))
    (List.nodup_cons.2 ⟨fun hm => by
      have := h.heap.lt w.heap.size (by rw [hsplit]; simp [hf0 _ hm])
      omega, hn0⟩)
    (by
      intro S' hS'
      refine ⟨rfl, .inr ⟨_, ty, vs ++ us, f0 ++ [], by simp, heap_alloc_new w.drew _, by simpa using hsize, ?_, ?_, ?_, by simpa using hcap⟩⟩
      · intro x hx
        rcases List.mem_append.1 hx with hx | hx
        · exact hux x hx
        · exact huy x hx
      · rw [List.flatten_append]
        exact (hx.frame hfr hS' (fun _ h => h.elim) (φput_ext h.heap.length hf) (fun _ _ h => h)).append (hy.frame hfr hS' (fun _ h => h.elim) (φput_ext h.heap.length hf) (by simp))
      · intro k v hk
        simp only [Nat.zero_add]
        rw [← Array.getElem?_toList]
        simp only [Array.toList_append, List.append_assoc]
        rw [← List.append_assoc, List.getElem?_append_left (by have := (List.getElem?_eq_some_iff.1 hk).1; simpa using this)]
        exact hk)
  refine ⟨fs', _, g1, g2, g3, g4, ?_⟩
  have := Rel.sl (w := w.drew.alloc (.cells (vs.toArray ++ us.toArray ++ Builtin.zeroCells z (cap - (xs.length + ys.length))) ty)) (S := Sof S0 fs') (lo := 0) (len := (xs ++ ys).length) (c := cap) (a := some ⟨w.heap.size, 0, none⟩) g5 (by simp) (by simpa using hcap) (fun _ => by simp)
  simpa using this

/-- Old cells stay, new ones behind them. -/
theorem app_room_sl (h : SRel S0 st a w φ fs) {base m : Nat} {f1 f2 f0 f0' : List Nat} {l : Loc} (hsplit : fs = f1 ++ ((l.g :: f0) ++ f2)) (hf : hfree st.heap φ base)
    (hk : ∃ h1 : Heap, h1 = st.heap.set m none ∧ hfree h1 φ base ∧ HRel w (Sof S0 fs) φ h1 φ (f1 ++ f2))
    {arr : Array Value} {ty : TypeId} (hh : w.heap[l.g]? = some (.cells arr ty (0, 0))) {sz : Nat} (hlz : l.sz = sz) (hz : arr.size = l.off + l.cap * sz)
    {xs ys : List (List A)} {vs us : List Value} (hux : ∀ x ∈ xs, x.length = sz) (huy : ∀ x ∈ ys, x.length = sz) (hx : RelL w (Sof S0 fs) φ xs.flatten vs f0') (hy : RelL w (Sof S0 fs) φ ys.flatten us []) (hsub : f0'.Sublist f0)
    {lo c : Nat} (hlo : lo + c = l.cap) (hroom : xs.length + ys.length ≤ c) (hcell : ∀ (k : Nat) (v : Value), vs[k]? = some v → arr[l.off + lo * sz + k]? = some v) :
    ∃ fs' φ', SRel S0 { st with heap := hput (st.heap.set m none) base (sz, xs ++ ys) } a (w.setRow l.g (arr.toList.take (l.off + (lo * sz + xs.length * sz)) ++ us ++ arr.toList.drop (l.off + (lo * sz + xs.length * sz) + us.length)).toArray) φ' fs' ∧
      Fr (fun g => g ∈ fs) w (w.setRow l.g (arr.toList.take (l.off + (lo * sz + xs.length * sz)) ++ us ++ arr.toList.drop (l.off + (lo * sz + xs.length * sz) + us.length)).toArray) ∧ (∀ b, b ∈ fs' → b ∈ fs ∨ w.heap.size ≤ b) ∧ Ext φ φ' ∧
      Rel (w.setRow l.g (arr.toList.take (l.off + (lo * sz + xs.length * sz)) ++ us ++ arr.toList.drop (l.off + (lo * sz + xs.length * sz) + us.length)).toArray) (Sof S0 fs') φ' (.sl base 0 (xs ++ ys).length) (.slice (some ⟨l.g, l.off + lo * sz, none⟩) (xs.length + ys.length) c) [] := by
  have hvl := hx.length
  have hul := hy.length
  rw [flat_len hux] at hvl
  rw [flat_len huy] at hul
  have hfr := setRow_fr w l.g (arr.toList.take (l.off + (lo * sz + xs.length * sz)) ++ us ++ arr.toList.drop (l.off + (lo * sz + xs.length * sz) + us.length)).toArray
  have hmul : (xs.length + ys.length) * sz ≤ c * sz := Nat.mul_le_mul_right _ hroom
  rw [Nat.add_mul] at hmul
  have hcapm : l.cap * sz = lo * sz + c * sz := by rw [← hlo, Nat.add_mul]
  have hnd := h.nodup
  rw [hsplit] at hnd
  have hnd3 := List.nodup_cons.1 (List.nodup_append.1 (List.nodup_append.1 hnd).2.1).1
  have hgin : l.g ∈ fs := by rw [hsplit]; simp
  obtain ⟨fs', g1, g2, g3, g4, g5⟩ := h.swap (base := base) (k := some m) hf hsplit hk (l := ⟨l.g, l.off + lo * sz, c, sz⟩) (b := (sz, xs ++ ys)) (fb := l.g :: f0') hfr (fun b e => by rw [e]; simp)
    (by
      intro b hb
      rcases List.mem_cons.1 hb with rfl | hb
      · exact .inl (by simp)
      · exact .inl (by simp [hsub.subset hb]))
    (List.nodup_cons.2 ⟨fun hm => hnd3.1 (hsub.subset hm), hsub.nodup hnd3.2⟩)
    (by
      intro S' hS'
      refine ⟨rfl, .inr ⟨_, ty, vs ++ us, f0' ++ [], by simp, setRow_heap w l.g arr _ ty _ hh, ?_, ?_, ?_, ?_, by simpa using hroom⟩⟩
      · simp only [List.size_toArray, List.length_append, List.length_take, List.length_drop, Array.length_toList]
        rw [← hul]
        omega
      · intro x hx
        rcases List.mem_append.1 hx with hx | hx
        · exact hux x hx
        · exact huy x hx
      · rw [List.flatten_append]
        exact (hx.frame hfr hS' (fun b e => .inr (by rw [e]; exact hgin)) (φput_ext h.heap.length hf) (fun g hg e => hnd3.1 (by rw [← e]; exact hsub.subset hg))).append (hy.frame hfr hS' (fun b e => .inr (by rw [e]; exact hgin)) (φput_ext h.heap.length hf) (by simp))
      · intro k v hk
        simp only [List.getElem?_toArray]
        by_cases hlt : k < vs.length
        · rw [List.getElem?_append_left hlt] at hk
          rw [List.append_assoc, List.getElem?_append_left (by simp; omega), List.getElem?_take_of_lt (by omega)]
          have := hcell k v hk
          simpa using this
        · rw [List.getElem?_append_right (by omega)] at hk
          have hlu := (List.getElem?_eq_some_iff.1 hk).1
          have htl : (arr.toList.take (l.off + (lo * sz + xs.length * sz))).length = l.off + (lo * sz + xs.length * sz) := by simp; omega
          rw [List.append_assoc, List.getElem?_append_right (by omega), htl, List.getElem?_append_left (by omega)]
          rw [← hk]
          congr 1
          omega)
  refine ⟨fs', _, g1, g2, g3, g4, ?_⟩
  have := Rel.sl (w := w.setRow l.g (arr.toList.take (l.off + (lo * sz + xs.length * sz)) ++ us ++ arr.toList.drop (l.off + (lo * sz + xs.length * sz) + us.length)).toArray) (S := Sof S0 fs') (lo := 0) (len := (xs ++ ys).length) (c := c) (a := some ⟨l.g, l.off + lo * sz, none⟩) g5 (by simp) (by simpa using hroom) (fun _ => by simp)
  simpa using this
end
end Go.Proofs.Ytpdhoimpbiehkaa.Ab
