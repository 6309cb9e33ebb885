/- Operations that make memory. -/
import Derived.Test.YtpdhoimpbiehkaaAbOne3
import Derived.Laws.MakeOwn
import Derived.Great.BuildSlice
namespace Go.Proofs.Ytpdhoimpbiehkaa.Ab
open Go
set_option linter.unusedVariables false
set_option linter.unusedSimpArgs false

/-- A block put into the abstract heap at a free place. -/
def hput (h : Heap) (base : Nat) (b : Blk) : Heap := if base < h.length then h.set base (some b) else h ++ [some b]
def φput (φ : List (Option Loc)) (base : Nat) (l : Loc) : List (Option Loc) := if base < φ.length then φ.set base (some l) else φ ++ [some l]
def hfree (h : Heap) (φ : List (Option Loc)) (base : Nat) : Prop := base = h.length ∨ (base < h.length ∧ h[base]? = some none ∧ φ[base]? = some none)

section
variable {P : Program} {T : Tab} {S0 : Nat → Prop} {st : St} {a : Act} {w : World} {φ : List (Option Loc)} {fs : List Nat}

theorem φput_ext {h : Heap} {base : Nat} {l : Loc} (hl : φ.length = h.length) (hf : hfree h φ base) : Ext φ (φput φ base l) := by
  intro m l' hm
  unfold φput
  rcases hf with e | ⟨e1, e2, e3⟩
  · rw [if_neg (by omega)]; exact Ext.app φ [some l] m l' hm
  · rw [if_pos (by omega), List.getElem?_set_ne]
    · exact hm
    · rintro rfl; rw [e3] at hm; cases hm
theorem φput_at {h : Heap} {base : Nat} {l : Loc} (hl : φ.length = h.length) (hf : hfree h φ base) : (φput φ base l)[base]? = some (some l) := by
  unfold φput
  rcases hf with e | ⟨e1, e2, e3⟩
  · rw [if_neg (by omega), List.getElem?_append_right (by omega)]; simp [show base - φ.length = 0 by omega]
  · rw [if_pos (by omega), List.getElem?_set_self (by omega)]

theorem HRel.at2 {S : Nat → Prop} {h : Heap} {ls : List (Option Loc)} {f : List Nat} (H : HRel w S φ h ls f) {m : Nat} {b : Option Blk} (hm : h[m]? = some b) :
    ∃ l f1 fb f2, ls[m]? = some l ∧ BRel w S φ b l fb ∧ f = f1 ++ (fb ++ f2) ∧
      ∀ (w' : World) (S' T : Nat → Prop) (φ' : List (Option Loc)) (b' : Option Blk) (l' : Option Loc) (fb' : List Nat), Fr T w w' → (∀ b, S' b → S b ∨ w.heap.size ≤ b) → (∀ b, T b → S b) → Ext φ φ' →
        (∀ g ∈ f1, ¬ T g) → (∀ g ∈ f2, ¬ T g) → BRel w' S' φ' b' l' fb' → HRel w' S' φ' (h.set m b') (ls.set m l') (f1 ++ (fb' ++ f2)) := by
  induction H generalizing m with
  | nil => simp at hm
  | cons h0 hs ih =>
    rename_i b0 l0 f0 bs ls0 fs0
    cases m with
    | zero =>
      simp at hm; subst hm
      refine ⟨l0, [], f0, fs0, rfl, h0, rfl, fun w' S' T φ' b' l' fb' hw hS hT hφ h1 h2 hb => ?_⟩
      rw [List.nil_append]; exact .cons hb (hs.frame hw hS hT hφ h2)
    | succ m =>
      obtain ⟨l, f1, fb, f2, e1, e2, e3, e4⟩ := ih (by simpa using hm)
      refine ⟨l, f0 ++ f1, fb, f2, by simpa using e1, e2, by rw [e3]; simp, fun w' S' T φ' b' l' fb' hw hS hT hφ h1 h2 hb => ?_⟩
      rw [List.append_assoc]
      exact .cons (h0.frame hw hS hT hφ (fun g hg => h1 g (by simp [hg]))) (e4 w' S' T φ' b' l' fb' hw hS hT hφ (fun g hg => h1 g (by simp [hg])) h2 hb)
/-- A new block, of which the heap tells. -/
theorem SRel.newBlk (h : SRel S0 st a w φ fs) {base : Nat} (hf : hfree st.heap φ base) {arr : Array Value} {ty : TypeId} {sz cap : Nat} {es : List (List A)} {vs : List Value} (hu : ∀ e ∈ es, e.length = sz)
    (hr : RelL w (Sof S0 fs) φ es.flatten vs []) (hc : ∀ (k : Nat) (v : Value), vs[k]? = some v → arr[k]? = some v) (hz : arr.size = cap * sz) (hl : es.length ≤ cap) :
    ∃ fs', SRel S0 { st with heap := hput st.heap base (sz, es) } a (w.alloc (.cells arr ty)) (φput φ base ⟨w.heap.size, 0, cap, sz⟩) fs' ∧ Fr (fun _ => False) w (w.alloc (.cells arr ty)) ∧
      (∀ b, b ∈ fs' → b ∈ fs ∨ w.heap.size ≤ b) ∧ Ext φ (φput φ base ⟨w.heap.size, 0, cap, sz⟩) ∧ (φput φ base ⟨w.heap.size, 0, cap, sz⟩)[base]? = some (some ⟨w.heap.size, 0, cap, sz⟩) := by
  have hlen := h.heap.length
  have hext := φput_ext (l := ⟨w.heap.size, 0, cap, sz⟩) hlen hf
  have hat := φput_at (l := ⟨w.heap.size, 0, cap, sz⟩) hlen hf
  generalize hφ' : φput φ base ⟨w.heap.size, 0, cap, sz⟩ = φ' at hext hat ⊢
  have hfr : Fr (fun _ => False) w (w.alloc (.cells arr ty)) := ⟨rfl, rfl, rfl, by show _ ≤ (w.heap.push _).size; simp, fun b hb _ => heap_alloc_old w _ b hb⟩
  have hltS : ∀ b ∈ fs, b < w.heap.size := h.heap.lt
  have key : ∀ fs' : List Nat, (∀ b, b ∈ fs' ↔ b ∈ fs ∨ b = w.heap.size) → fs'.Nodup → HRel (w.alloc (.cells arr ty)) (Sof S0 fs') φ' (hput st.heap base (sz, es)) φ' fs' →
      SRel S0 { st with heap := hput st.heap base (sz, es) } a (w.alloc (.cells arr ty)) φ' fs' := by
    intro fs' hm hn hh
    refine ⟨h.defers, h.size, h.env_frame hfr (fun _ h => h.elim) (fun b hb => ((hm b).1 hb).imp id (fun e => by omega)) hext, hh, hn, ?_, fun b hb => Nat.lt_of_lt_of_le (h.low b hb) hfr.size⟩
    intro b hb
    rcases (hm b).1 hb with hb | rfl
    · exact h.apart b hb
    · intro hs; exact absurd (h.low _ hs) (by omega)
  have brel : ∀ fs' : List Nat, (∀ b, b ∈ fs' ↔ b ∈ fs ∨ b = w.heap.size) → BRel (w.alloc (.cells arr ty)) (Sof S0 fs') φ' (some (sz, es)) (some ⟨w.heap.size, 0, cap, sz⟩) [w.heap.size] := by
    intro fs' hm
    refine ⟨rfl, .inr ⟨arr, ty, vs, [], rfl, heap_alloc_new w _, by simpa using hz, hu, ?_, by simpa using hc, hl⟩⟩
    exact hr.frame hfr (fun b hb => hb.elim (fun h0 => .inl (.inl h0)) (fun hb => ((hm b).1 hb).elim (fun h1 => .inl (.inr h1)) (fun e => .inr (by omega)))) (fun _ h => h.elim) hext (by simp)
  have hsub : ∀ fs' : List Nat, (∀ b, b ∈ fs' ↔ b ∈ fs ∨ b = w.heap.size) → ∀ b, Sof S0 fs' b → Sof S0 fs b ∨ w.heap.size ≤ b := fun fs' hm b hb =>
    hb.elim (fun h0 => .inl (.inl h0)) (fun hb => ((hm b).1 hb).elim (fun h1 => .inl (.inr h1)) (fun e => .inr (by omega)))
  rcases hf with e | ⟨e1, e2, e3⟩
  · have hm : ∀ b, b ∈ fs ++ [w.heap.size] ↔ b ∈ fs ∨ b = w.heap.size := by simp
    have e0 : hput st.heap base (sz, es) = st.heap ++ [some (sz, es)] := by unfold hput; rw [if_neg (by omega)]
    have e4 : φ' = φ ++ [some ⟨w.heap.size, 0, cap, sz⟩] := by rw [← hφ']; unfold φput; rw [if_neg (by omega)]
    refine ⟨fs ++ [w.heap.size], key _ hm ?_ ?_, hfr, fun b hb => ((hm b).1 hb).imp id (fun e => by omega), hext, hat⟩
    · refine List.nodup_append.2 ⟨h.nodup, by simp, ?_⟩
      intro b hb c hc e
      simp at hc
      have := hltS b hb
      omega
    · have h1 := h.heap.frame (φ' := φ') hfr (hsub _ hm) (fun _ h => h.elim) hext (fun _ _ h => h)
      have h2 := h1.snoc (brel _ hm)
      rw [e0]
      rw [← e4] at h2
      exact h2
  · obtain ⟨l0, f1, fb, f2, q1, q2, q3, q4⟩ := h.heap.at2 e2
    have : fb = [] := q2
    subst this
    have hm : ∀ b, b ∈ f1 ++ ([w.heap.size] ++ f2) ↔ b ∈ fs ∨ b = w.heap.size := by
      intro b; rw [q3]; simp only [List.mem_append, List.mem_singleton, List.not_mem_nil, false_or]; constructor
      · rintro (h | h | h); exact .inl (.inl h); exact .inr h; exact .inl (.inr h)
      · rintro ((h | h) | h); exact .inl h; exact .inr (.inr h); exact .inr (.inl h)
    have e0 : hput st.heap base (sz, es) = st.heap.set base (some (sz, es)) := by unfold hput; rw [if_pos e1]
    have e4 : φ' = φ.set base (some ⟨w.heap.size, 0, cap, sz⟩) := by rw [← hφ']; unfold φput; rw [if_pos (by omega)]
    refine ⟨_, key _ hm ?_ ?_, hfr, fun b hb => ((hm b).1 hb).imp id (fun e => by omega), hext, hat⟩
    · have hn := h.nodup
      rw [q3, List.nil_append] at hn
      rw [List.nodup_append] at hn ⊢
      have hlt1 : ∀ b ∈ f1, b < w.heap.size := fun b hb => hltS b (by rw [q3]; simp [hb])
      have hlt2 : ∀ b ∈ f2, b < w.heap.size := fun b hb => hltS b (by rw [q3]; simp [hb])
      refine ⟨hn.1, List.nodup_append.2 ⟨by simp, hn.2.1, ?_⟩, ?_⟩
      · intro b hb c hc e
        simp at hb
        have := hlt2 c hc
        omega
      · intro b hb c hc e
        rcases List.mem_append.1 hc with hc | hc
        · simp at hc; have := hlt1 b hb; omega
        · exact hn.2.2 b hb c hc e
    · rw [e0]
      have := q4 (w.alloc (.cells arr ty)) (Sof S0 (f1 ++ ([w.heap.size] ++ f2))) (fun _ => False) φ' (some (sz, es)) (some ⟨w.heap.size, 0, cap, sz⟩) [w.heap.size] hfr (hsub _ hm) (fun _ h => h.elim) hext (fun _ _ h => h) (fun _ _ h => h) (brel _ hm)
      rw [← e4] at this
      exact this

/-! ### What is made -/
def fillE (size : Nat) : List (List A) → List (Nat × A) → Option (List (List A))
  | es, [] => some es
  | es, (i, x) :: rest =>
    match cellsOf x with
    | some cs => if cs.length = size ∧ i < es.length then fillE size (es.set i cs) rest else none
    | none => none
def anew (T : Tab) (env : List (Nat × A)) : Op → Option (Blk × Bool)
  | .alloc t => match T t with
    | some i => some ((i.size, [i.zero]), false)
    | none => none
  | .box t x => match cellsOf (ev env x) with
    | some cs => some ((cs.length, [cs]), false)
    | none => none
  | .buildSlice t len parts => match (T t).map TI.kind with
    | some (TK.slice e) => match T e with
      | some i => if len * i.size ≤ 16777216 then (fillE i.size (List.replicate len i.zero) (parts.toList.map fun p => (p.1, ev env p.2))).map fun es => ((i.size, es), true) else none
      | none => none
    | _ => none
  | .makeSlice t l c => match (T t).map TI.kind with
    | some (TK.slice e) => match T e, ev env l, ev env c with
      | some i, .int _ n, .int _ n' => if n = n' ∧ 0 ≤ n ∧ n ≤ 4611686018427387904 ∧ (i.bytes : Int) * n ≤ 140737488355328 then some ((i.size, List.replicate n.toNat i.zero), true) else none
      | _, _, _ => none
    | _ => none
  | _ => none

theorem flat_set_elem {α : Type} {es : List (List α)} {sz i : Nat} {e : List α} (hu : ∀ e ∈ es, e.length = sz) (hi : i < es.length) : (es.set i e).flatten = es.flatten.take (i * sz) ++ (e ++ es.flatten.drop (i * sz + sz)) := by
  have h1 : i * sz + sz = (i + 1) * sz := by rw [Nat.add_mul]; omega
  rw [List.set_eq_take_append_cons_drop, if_pos hi, List.flatten_append, List.flatten_cons, flat_take hu, h1, flat_drop hu]
theorem uni_set {α : Type} {es : List (List α)} {sz i : Nat} {e : List α} (hu : ∀ e ∈ es, e.length = sz) (he : e.length = sz) : ∀ x ∈ es.set i e, x.length = sz := by
  intro x hx
  rcases List.mem_or_eq_of_mem_set hx with h | h
  · exact hu x h
  · rw [h]; exact he
theorem fillE_rel {S : Nat → Prop} {env : List (Nat × A)} (he : ∀ x, Rel w S φ (ev env x) (a.eval x) []) {size : Nat} {ps : List (Nat × Operand)} {es out : List (List A)} {vcells : Array Value}
    (hu : ∀ e ∈ es, e.length = size) (hc : RelL w S φ es.flatten vcells.toList []) (h : fillE size es (ps.map fun p => (p.1, ev env p.2)) = some out) :
    ∃ vout, Instr.fill (fun i => some (i * size, size)) vcells (ps.map fun p => (p.1, a.eval p.2)) = some vout ∧ RelL w S φ out.flatten vout.toList [] ∧ (∀ e ∈ out, e.length = size) ∧ out.length = es.length := by
  induction ps generalizing es vcells with
  | nil => simp [fillE] at h; subst h; exact ⟨vcells, rfl, hc, hu, rfl⟩
  | cons p ps ih =>
    obtain ⟨i, x⟩ := p
    have hx := he x
    generalize hv : a.eval x = v at hx
    simp only [List.map_cons, fillE] at h
    simp only [List.map_cons, hv]
    split at h
    · rename_i cs h2
      split at h
      · rename_i h3
        have hcs := cells_rel hx h2
        have hl := hcs.length
        have hl2 := hc.length
        rw [flat_len hu] at hl2
        have hvs : v.cells.size = size := by rw [← h3.1, hl]; simp
        have hfit : i * size + size ≤ vcells.size := by
          have : (i + 1) * size ≤ es.length * size := Nat.mul_le_mul_right _ h3.2
          rw [Nat.add_mul] at this
          simp at hl2
          omega
        have hset : (v.cells.zipIdx.foldl (fun cs (x : Value × Nat) => cs.setIfInBounds (i * size + x.2) x.1) vcells).toList = vcells.toList.take (i * size) ++ (v.cells.toList ++ vcells.toList.drop (i * size + size)) := by
          have := foldl_set v.cells.toList (i * size) 0 vcells (by simp; omega)
          simp only [Nat.add_zero, Array.length_toList, hvs] at this
          rw [← this, ← Array.foldl_toList]
          simp
        obtain ⟨vout, h5, h6, h7, h8⟩ := ih (es := es.set i cs) (vcells := v.cells.zipIdx.foldl (fun cs (x : Value × Nat) => cs.setIfInBounds (i * size + x.2) x.1) vcells) (uni_set hu h3.1)
          (by rw [hset, flat_set_elem hu h3.2]; exact (hc.take _).append (f := []) (g := []) (hcs.append (f := []) (g := []) (hc.drop _))) h
        refine ⟨vout, ?_, h6, h7, by simpa using h8⟩
        simp only [Instr.fill]
        rw [if_neg (by simp [hvs]; omega)]
        exact h5
      · cases h
    · cases h
theorem RelL.rep {S : Nat → Prop} {as : List A} {vs : List Value} (h : RelL w S φ as vs []) (n : Nat) : RelL w S φ (List.replicate n as).flatten (List.replicate n vs).flatten [] := by
  induction n with
  | zero => exact .nil
  | succ n ih => rw [List.replicate_succ, List.replicate_succ, List.flatten_cons, List.flatten_cons]; exact h.append (f := []) (g := []) ih
theorem made_flat (z : Array Value) (n : Nat) : (madeCells z (n * z.size)).toList = (List.replicate n z.toList).flatten := by
  apply List.ext_getElem?
  intro k
  by_cases hk : k < n * z.size
  · have hz : 0 < z.size := by rcases Nat.eq_zero_or_pos z.size with h | h; (rw [h] at hk; simp at hk); exact h
    have hd := Nat.div_add_mod k z.size
    have hlt : k % z.size < z.size := Nat.mod_lt _ hz
    have hq : k / z.size < n := by rw [Nat.div_lt_iff_lt_mul hz]; exact hk
    have hu : ∀ e ∈ List.replicate n z.toList, e.length = z.size := fun e he => by rw [List.eq_of_mem_replicate he]; simp
    have := flat_get (i := k / z.size) (j := k % z.size) (e := z.toList) hu (by simp [hq]) hlt
    rw [Nat.mul_comm, hd] at this
    rw [this]
    simp [madeCells, hk, hlt]
  · rw [List.getElem?_eq_none (by simp [madeCells]; omega), List.getElem?_eq_none (by rw [flat_len (sz := z.size) (fun e he => by rw [List.eq_of_mem_replicate he]; simp)]; simp; omega)]

theorem anew_run (hT : T.ok P) (h : SRel S0 st a w φ fs) {o : Oper} {sz : Nat} {es : List (List A)} {sl : Bool} (hv : anew T st.env o.op = some ((sz, es), sl)) :
    ∃ (arr : Array Value) (ty : TypeId), (execOp a.eval o).run P w = .ok (.value (if sl then .slice (some ⟨w.heap.size, 0, none⟩) es.length es.length else .pointer (some ⟨w.heap.size, 0, none⟩))) (w.alloc (.cells arr ty)) ∧
      (∀ e ∈ es, e.length = sz) ∧ RelL w (Sof S0 fs) φ es.flatten arr.toList [] ∧ arr.size = es.length * sz ∧ (sl = false → es.length = 1) := by
  have fin : ∀ (arr : Array Value), (∀ e ∈ es, e.length = sz) → RelL w (Sof S0 fs) φ es.flatten arr.toList [] → arr.size = es.length * sz := fun arr hu hr => by
    have := hr.length
    rw [flat_len hu] at this
    simpa using this.symm
  unfold execOp
  cases hop : o.op <;> rw [hop] at hv <;> simp only [anew, reduceCtorEq] at hv
  case alloc t =>
    split at hv
    · rename_i i hi
      simp only [Option.some.injEq, Prod.mk.injEq] at hv
      obtain ⟨⟨rfl, rfl⟩, rfl⟩ := hv
      obtain ⟨d, inf, z, h1, h2, h3, h4, h5, h6, h7, h8⟩ := fits_info (hT _ _ hi)
      have hr : RelL w (Sof S0 fs) φ [i.zero].flatten z.cells.toList [] := by simpa using simples_rel h7
      have hu : ∀ e ∈ [i.zero], e.length = i.size := by simpa using h8
      exact ⟨z.cells, t, by simp [Instr.alloc, zeroValue, typeInfo, h2, h6, newVar, newRow], hu, hr, fin _ hu hr, fun _ => rfl⟩
    · cases hv
  case box t x =>
    split at hv
    · rename_i cs hcs
      simp only [Option.some.injEq, Prod.mk.injEq] at hv
      obtain ⟨⟨rfl, rfl⟩, rfl⟩ := hv
      have hr : RelL w (Sof S0 fs) φ [cs].flatten (a.eval x).cells.toList [] := by simpa using cells_rel (ev_rel h x) hcs
      have hu : ∀ e ∈ [cs], e.length = cs.length := by simp
      exact ⟨(a.eval x).cells, t, by simp [Instr.box, newVar, newRow], hu, hr, fin _ hu hr, fun _ => rfl⟩
    · cases hv
  case buildSlice t len parts =>
    split at hv
    · rename_i e hk
      obtain ⟨it, hit, hk, hf⟩ := kind_some hT hk
      split at hv
      · rename_i i hi
        split at hv
        · rename_i hsmall
          obtain ⟨es', h1, h2⟩ := Option.map_eq_some_iff.1 hv
          simp only [Prod.mk.injEq] at h2
          obtain ⟨⟨rfl, rfl⟩, rfl⟩ := h2
          obtain ⟨d, inf, z, q1, q2, q3, q4, q5, q6, q7, q8⟩ := fits_info (hT _ _ hi)
          have hu0 : ∀ e ∈ List.replicate len i.zero, e.length = i.size := fun e he => by rw [List.eq_of_mem_replicate he]; exact q8
          have hz := simples_rel (w := w) (S := Sof S0 fs) (φ := φ) q7
          have hzs : z.cells.size = i.size := by have := hz.length; rw [q8] at this; simpa using this.symm
          have hr0 : RelL w (Sof S0 fs) φ (List.replicate len i.zero).flatten (madeCells z.cells (len * i.size)).toList [] := by
            rw [← hzs, made_flat]
            exact hz.rep len
          obtain ⟨vout, g1, g2, g3, g4⟩ := fillE_rel (a := a) (fun x => ev_rel h x) hu0 hr0 h1
          have hlen : es'.length = len := by simpa using g4
          refine ⟨vout, e, ?_, g3, g2, fin _ g3 g2, fun h => by cases h⟩
          rw [hlen]
          have hparts : (parts.map fun (i, x) => (i, a.eval x)).toList = parts.toList.map fun p => (p.1, a.eval p.2) := by simp
          have hu := under_slice hf hk
          by_cases hpos : len * i.size = 0
          · have hm : madeCells z.cells (len * i.size) = #[] := by rw [hpos]; apply Array.ext'; simp [madeCells]
            rw [hm] at g1
            have e1 : Array.map (fun x => (default : Value)) (Array.range 0) = #[] := by apply Array.ext'; simp
            have hno : ¬ len * i.size > 2 ^ 24 := by omega
            have : (Instr.buildSlice t len (parts.map fun (i, x) => (i, a.eval x))).run P w = .ok (.slice (some ⟨w.heap.size, 0, none⟩) len len) (w.alloc (.cells vout e)) := by
              simp only [Instr.buildSlice, Sem.run_bind, run_underlying hu, Result.andThen_ok, sizeOf, typeInfo, program, Sem.run, q2, Sem.run_pure, q4]
              rw [if_neg hno]
              simp [hpos]
              rw [e1, g1]
              simp [newRow]
            simp only [Sem.run_bind, this]
            rfl
          · have := run_buildSlice (P := P) w t e len (parts.map fun (i, x) => (i, a.eval x)) vout inf z hu q2 q6 (by rw [q4]; omega) (by rw [q4]; exact hpos) (by
              rw [hparts, q4]
              exact g1)
            simp only [Sem.run_bind, this]
            rfl
        · cases hv
      · cases hv
    · cases hv
  case makeSlice t l c =>
    split at hv
    · rename_i e hk
      obtain ⟨it, hit, hk, hf⟩ := kind_some hT hk
      split at hv
      · rename_i i k n k' n' hi hl hc
        split at hv
        · rename_i hcond
          obtain ⟨rfl, h0, h1, h2⟩ := hcond
          simp only [Option.some.injEq, Prod.mk.injEq] at hv
          obtain ⟨⟨rfl, rfl⟩, rfl⟩ := hv
          obtain ⟨d, inf, z, q1, q2, q3, q4, q5, q6, q7, q8⟩ := fits_info (hT _ _ hi)
          have hu0 : ∀ e ∈ List.replicate n.toNat i.zero, e.length = i.size := fun e he => by rw [List.eq_of_mem_replicate he]; exact q8
          have hz := simples_rel (w := w) (S := Sof S0 fs) (φ := φ) q7
          have hzs : z.cells.size = i.size := by have := hz.length; rw [q8] at this; simpa using this.symm
          have hr0 : RelL w (Sof S0 fs) φ (List.replicate n.toNat i.zero).flatten (madeCells z.cells (n.toNat * i.size)).toList [] := by
            rw [← hzs, made_flat]
            exact hz.rep n.toNat
          refine ⟨madeCells z.cells (n.toNat * i.size), e, ?_, hu0, hr0, fin _ hu0 hr0, fun h => by cases h⟩
          have hu := under_slice hf hk
          have el := ev_int h hl
          have ec := ev_int h hc
          have := run_make (P := P) w t e inf z hu q2 q6 k k' n n (by omega) (Int.le_refl _) (by rw [q5]; omega) (by omega)
          simp only [Sem.run_bind, el, ec, this, q4]
          simp
        · cases hv
      · cases hv
    · cases hv
end
end Go.Proofs.Ytpdhoimpbiehkaa.Ab
