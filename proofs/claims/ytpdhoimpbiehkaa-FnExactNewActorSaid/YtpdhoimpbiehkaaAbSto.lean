/- Stores into memory of the call's own. -/
import Derived.Test.YtpdhoimpbiehkaaAbNew
import Derived.Laws.CopyRow
namespace Go.Proofs.Ytpdhoimpbiehkaa.Ab
open Go
set_option linter.unusedVariables false
set_option linter.unusedSimpArgs false

section
variable {P : Program} {T : Tab} {S0 : Nat → Prop} {st : St} {a : Act} {w : World} {φ : List (Option Loc)} {fs : List Nat}

theorem setRow_fr (w : World) (g : Nat) (arr : Array Value) : Fr (fun b => b = g) w (w.setRow g arr) :=
  ⟨rfl, rfl, rfl, by simp, fun b _ hn => setRow_other w g b arr hn⟩

theorem seg_get {α : Type} (L xs vs : List α) (o p n : Nat) (hn : xs.length = n) (hfit : o + p + n ≤ L.length) (hc : ∀ (k : Nat) (v : α), vs[k]? = some v → L[o + k]? = some v) (hlen : p + n ≤ vs.length) (k : Nat) (v : α)
    (hk : (vs.take p ++ (xs ++ (vs.drop p).drop n))[k]? = some v) : (L.take (o + p) ++ xs ++ L.drop (o + p + n))[o + k]? = some v := by
  have hp : (vs.take p).length = p := by simp; omega
  have ho : (L.take (o + p)).length = o + p := by simp; omega
  by_cases h1 : k < p
  · rw [List.getElem?_append_left (by omega), List.getElem?_take_of_lt h1] at hk
    rw [List.getElem?_append_left (by simp; omega), List.getElem?_append_left (by omega), List.getElem?_take_of_lt (by omega)]
    exact hc k v hk
  · rw [List.getElem?_append_right (by omega), hp] at hk
    by_cases h2 : k < p + n
    · rw [List.getElem?_append_left (by omega)] at hk
      rw [List.getElem?_append_left (by simp; omega), List.getElem?_append_right (by omega), ho, show o + k - (o + p) = k - p by omega]
      exact hk
    · rw [List.getElem?_append_right (by omega), List.getElem?_drop, List.getElem?_drop, hn, show p + (n + (k - p - n)) = k by omega] at hk
      rw [List.getElem?_append_right (by simp; omega), List.getElem?_drop]
      have := hc k v hk
      rw [← this]
      congr 1
      simp
      omega
theorem flat_cells {es : List (List A)} {sz r j : Nat} {e cs : List A} (hu : ∀ e ∈ es, e.length = sz) (he : es[r]? = some e) (hfit : j + cs.length ≤ sz) :
    (es.set r (e.take j ++ (cs ++ e.drop (j + cs.length)))).flatten = es.flatten.take (r * sz + j) ++ (cs ++ (es.flatten.drop (r * sz + j)).drop cs.length) := by
  obtain ⟨hrl, hee⟩ := List.getElem?_eq_some_iff.1 he
  have hel : e.length = sz := hu _ (List.mem_of_getElem? he)
  have h1 : (es.flatten.drop (r * sz)).take sz = e := by
    have := flat_sub (j := 0) (n := sz) hu he (by omega)
    simp only [Nat.add_zero, List.drop_zero] at this
    rw [this, List.take_of_length_le (by omega)]
  have h2 : es.flatten.drop (r * sz) = e ++ es.flatten.drop (r * sz + sz) := by
    have := List.take_append_drop sz (es.flatten.drop (r * sz))
    rw [h1, List.drop_drop] at this
    exact this.symm
  rw [flat_set_elem hu hrl, List.take_add, List.drop_drop, Nat.add_assoc (r * sz) j, ← List.drop_drop (i := j + cs.length) (j := r * sz)]
  generalize es.flatten.drop (r * sz + sz) = X at h2 ⊢
  rw [h2, List.take_append_of_le_length (by omega), List.drop_append_of_le_length (by omega)]
  simp [List.append_assoc]
/-- A block that lives, and what may stand in its place. -/
theorem SRel.setBlk (h : SRel S0 st a w φ fs) {m sz : Nat} {es : List (List A)} (hm : st.heap[m]? = some (some (sz, es))) (hne : es ≠ []) :
    ∃ (l : Loc) (arr : Array Value) (ty : TypeId) (vs : List Value) (f0 : List Nat), φ[m]? = some (some l) ∧ l.sz = sz ∧ w.heap[l.g]? = some (.cells arr ty (0, 0)) ∧ arr.size = l.off + l.cap * sz ∧ (∀ e ∈ es, e.length = sz) ∧
      RelL w (Sof S0 fs) φ es.flatten vs f0 ∧ (∀ (k : Nat) (v : Value), vs[k]? = some v → arr[l.off + k]? = some v) ∧ es.length ≤ l.cap ∧
      ∀ (arr' : Array Value) (es' : List (List A)) (vs' : List Value) (f0' : List Nat), f0'.Sublist f0 → (∀ e ∈ es', e.length = sz) → RelL w (Sof S0 fs) φ es'.flatten vs' f0' →
        (∀ (k : Nat) (v : Value), vs'[k]? = some v → arr'[l.off + k]? = some v) → arr'.size = arr.size → es'.length ≤ l.cap →
        ∃ fs', SRel S0 { st with heap := st.heap.set m (some (sz, es')) } a (w.setRow l.g arr') φ fs' ∧ fs'.Sublist fs ∧ l.g ∈ fs := by
  obtain ⟨lo, f1, fb, f2, q1, q2, q3, q4⟩ := h.heap.at_ hm
  cases lo with
  | none => exact q2.elim
  | some l =>
    obtain ⟨hz, q2⟩ := q2
    rcases q2 with q2 | ⟨arr, ty, vs, f0, rfl, r1, r2, r3, r4, r5, r6⟩
    · exact absurd q2.2.1 hne
    · refine ⟨l, arr, ty, vs, f0, q1, hz, r1, r2, r3, r4, r5, r6, ?_⟩
      intro arr' es' vs' f0' hsub hu' hr' hc' hs' hl'
      have hn := h.nodup
      rw [q3] at hn
      have hn2 := List.nodup_append.1 hn
      have hn3 := List.nodup_append.1 hn2.2.1
      have hn4 := List.nodup_cons.1 hn3.1
      have hg : l.g ∈ fs := by rw [q3]; simp
      have hfr := setRow_fr w l.g arr'
      have hT : ∀ b, b = l.g → Sof S0 fs b := fun b e => .inr (by rw [e]; exact hg)
      have hsubl : (f1 ++ ((l.g :: f0') ++ f2)).Sublist fs := by
        rw [q3]
        exact (List.Sublist.refl f1).append ((hsub.cons_cons l.g).append (List.Sublist.refl f2))
      have hS : ∀ b, Sof S0 (f1 ++ ((l.g :: f0') ++ f2)) b → Sof S0 fs b ∨ w.heap.size ≤ b := fun b hb => .inl (hb.imp id (fun hb => hsubl.subset hb))
      have hb : BRel (w.setRow l.g arr') (Sof S0 (f1 ++ ((l.g :: f0') ++ f2))) φ (some (sz, es')) (some l) (l.g :: f0') := by
        refine ⟨hz, .inr ⟨arr', ty, vs', f0', rfl, setRow_heap w l.g arr arr' ty _ r1, by rw [hs']; exact r2, hu', ?_, hc', hl'⟩⟩
        exact hr'.frame hfr hS hT (Ext.refl φ) (fun g hg e => hn4.1 (by rw [← e]; exact hsub.subset hg))
      refine ⟨_, ⟨h.defers, h.size, h.env_frame hfr (fun b e => by rw [e]; exact hg) (fun b hb => .inl (hsubl.subset hb)) (Ext.refl φ), ?_, hsubl.nodup h.nodup, fun b hb => h.apart b (hsubl.subset hb), fun b hb => by simpa using h.low b hb⟩, hsubl, hg⟩
      exact q4 _ _ _ φ _ _ hfr hS hT (Ext.refl φ) (fun g hg e => by subst e; exact hn2.2.2 _ hg _ (by simp) rfl) (fun g hg e => by subst e; exact hn3.2.2 _ (by simp) _ hg rfl) hb

/-- Cells stored at a place. -/
def setCells (e : List A) (j : Nat) (cs : List A) : List A := e.take j ++ (cs ++ e.drop (j + cs.length))
def astore (T : Tab) (env : List (Nat × A)) (h : Heap) : Op → Option (Nat × Blk)
  | .store t p x => match T t, ev env p, cellsOf (ev env x) with
    | some i, .ptr m r j, some cs => match h[m]? with
      | some (some (sz, es)) => match es[r]? with
        | some e => if cs.length = i.size ∧ cs.all okc = true ∧ j + cs.length ≤ e.length then some (m, sz, es.set r (setCells e j cs)) else none
        | none => none
      | _ => none
    | _, _, _ => none
  | _ => none

theorem astore_run (hT : T.ok P) (h : SRel S0 st a w φ fs) {o : Oper} {m : Nat} {b : Blk} (hv : astore T st.env st.heap o.op = some (m, b)) :
    ∃ w' fs', (execOp a.eval o).run P w = .ok .skip w' ∧ SRel S0 { st with heap := st.heap.set m (some b) } a w' φ fs' ∧ Fr (fun g => g ∈ fs) w w' ∧ fs'.Sublist fs := by
  unfold execOp
  cases hop : o.op <;> rw [hop] at hv <;> simp only [astore, reduceCtorEq] at hv
  case store t p x =>
    split at hv
    · rename_i i m' r j cs hi hp hcs
      split at hv
      · rename_i sz es hm
        split at hv
        · rename_i e he
          split at hv
          · rename_i hcond
            obtain ⟨hl, hok, hfit⟩ := hcond
            simp only [Option.some.injEq, Prod.mk.injEq] at hv
            obtain ⟨rfl, rfl⟩ := hv
            have hne : es ≠ [] := by rintro rfl; simp at he
            obtain ⟨l, arr, ty, vs, f0, q1, q2, q3, q4, q5, q6, q7, q8, q9⟩ := h.setBlk hm hne
            have hrl : r < es.length := (List.getElem?_eq_some_iff.1 he).1
            have hel : e.length = sz := q5 _ (List.mem_of_getElem? he)
            have hpv := ev_rel h p
            rw [hp] at hpv
            generalize hpe : a.eval p = pv at hpv
            cases hpv with
            | ptr hm2 =>
              rename_i l2
              have : l2 = l := by rw [q1] at hm2; injection hm2 with e1; injection e1 with e1; exact e1.symm
              subst this
              have hx := cells_rel (ev_rel h x) hcs
              have hxl := hx.length
              have hvl := q6.length
              rw [flat_len q5] at hvl
              obtain ⟨f1, f2, f3, e1, g1, g2, g3⟩ := q6.window (r * sz + j) cs.length
              have hsz : r * sz + sz ≤ es.length * sz := by have := Nat.mul_le_mul_right sz hrl; rw [Nat.succ_mul] at this; exact this
              have hsz2 : es.length * sz ≤ l2.cap * sz := Nat.mul_le_mul_right sz q8
              have hflat : (es.set r (setCells e j cs)).flatten = es.flatten.take (r * sz + j) ++ (cs ++ (es.flatten.drop (r * sz + j)).drop cs.length) := by
                exact flat_cells q5 he (by omega)
              obtain ⟨fs', s1, s2, s3⟩ := q9 (arr.toList.take (l2.off + (r * sz + j)) ++ (a.eval x).cells.toList ++ arr.toList.drop (l2.off + (r * sz + j) + (a.eval x).cells.toList.length)).toArray (es.set r (setCells e j cs))
                (vs.take (r * sz + j) ++ ((a.eval x).cells.toList ++ (vs.drop (r * sz + j)).drop cs.length)) (f1 ++ ([] ++ f3)) (by rw [e1]; exact (List.Sublist.refl f1).append ((List.nil_sublist f2).append (List.Sublist.refl f3)))
                (uni_set q5 (by unfold setCells; simp; omega)) (by rw [hflat]; exact g1.append (hx.append g3)) (by
                  intro k v hk
                  have := seg_get arr.toList (a.eval x).cells.toList vs l2.off (r * sz + j) cs.length hxl.symm (by simp; omega) (by simpa using q7) (by omega) k v hk
                  rw [hxl] at this
                  simpa using this) (by simp at hxl; simp; omega) (by simpa using q8)
              refine ⟨_, fs', ?_, s1, (setRow_fr w l2.g _).mono (fun b e => by rw [e]; exact s3), s2⟩
              have hrun := run_storeCells_at (P := P) l2.g (l2.off + (r * sz + j)) ty (a.eval x).cells.toList 0 arr w q3 (by simp at hxl; simp; omega) (okc_all hx hok)
              simp only [hpe, Instr.storeAt, Instr.sureAddr, Sem.run_bind, Sem.run_pure, Result.andThen_ok, storeVar, run_sizeOf_fit (hT _ _ hi)]
              have hsize : ¬ (a.eval x).cells.size ≠ i.size := by simp at hxl; omega
              rw [if_neg hsize]
              rw [q2]
              simp only [Nat.add_zero] at hrun
              rw [hrun]
              rfl
          · cases hv
        · cases hv
      · cases hv
    · cases hv
end
end Go.Proofs.Ytpdhoimpbiehkaa.Ab
