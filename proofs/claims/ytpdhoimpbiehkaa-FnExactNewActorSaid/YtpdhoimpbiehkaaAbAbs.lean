/- Abstract values, and what they tell of the machine's values. Plain definitions and lemmas: no program in sight. -/
import Derived.Calls
import Derived.Laws.Rows
import Derived.Laws.Slices
namespace Go.Proofs.Ytpdhoimpbiehkaa.Ab
open Go
set_option linter.unusedVariables false
set_option linter.unusedSimpArgs false

/-- What is known of a value. 'row false': a slice that is read; 'row true', 'box': memory of the call's own; 'sl', 'ptr': into a block of the abstract heap. -/
inductive A where
  | any
  | int (k : IntKind) (n : Int)
  | bool (b : Bool)
  | str (s : ByteArray)
  | nils
  | nilp
  | row (own : Bool) (sz : Nat) (es : List (List A))
  | box (cs : List A)
  | agg (cs : List A)
  | tup (vs : List A)
  | fn (f : FuncId) (caps : List A)
  | sl (m lo len : Nat)
  | ptr (m i j : Nat)
  | rp (sz : Nat) (es : List (List A)) (i j : Nat)
  deriving Inhabited

/-- An element's cells, and the elements. -/
abbrev Blk := Nat × List (List A)
abbrev Heap := List (Option Blk)

/-- Where a block of the abstract heap lies. -/
structure Loc where
  g : Nat
  off : Nat
  cap : Nat
  sz : Nat

mutual
/-- Value v is told by the abstract value in the world w; S: the blocks that may change; the list: blocks of its own. -/
inductive Rel (w : World) (S : Nat → Prop) : List (Option Loc) → A → Value → List Nat → Prop
  | any {φ : List (Option Loc)} (v : Value) : Rel w S φ .any v []
  | int {φ : List (Option Loc)} (k : IntKind) (n : Int) : Rel w S φ (.int k n) (.int k n) []
  | bool {φ : List (Option Loc)} (b : Bool) : Rel w S φ (.bool b) (.bool b) []
  | str {φ : List (Option Loc)} (s : ByteArray) : Rel w S φ (.str s) (.string s) []
  | nils {φ : List (Option Loc)} : Rel w S φ .nils (.slice none 0 0) []
  | nilp {φ : List (Option Loc)} : Rel w S φ .nilp (.pointer none) []
  | ro {φ : List (Option Loc)} {es : List (List A)} {vs : List Value} {ad : Addr} {cap sz : Nat} (hu : ∀ e ∈ es, e.length = sz) (hr : RelL w S [] es.flatten vs [])
      (hc : ∀ (k : Nat) (v : Value), vs[k]? = some v → w.cell? (ad.add k) = some v ∧ ¬ S ad.block) (hl : es.length ≤ cap) :
      Rel w S φ (.row false sz es) (.slice (some ad) es.length cap) []
  | ro0 {φ : List (Option Loc)} (sz : Nat) (a : Option Addr) (cap : Nat) : Rel w S φ (.row false sz []) (.slice a 0 cap) []
  | own {φ : List (Option Loc)} {es : List (List A)} {vs : List Value} {g off cap sz : Nat} {arr : Array Value} {ty : TypeId} {f : List Nat} (hh : w.heap[g]? = some (.cells arr ty (0, 0)))
      (hz : arr.size = off + cap * sz) (hu : ∀ e ∈ es, e.length = sz) (hr : RelL w S φ es.flatten vs f)
      (hc : ∀ (k : Nat) (v : Value), vs[k]? = some v → arr[off + k]? = some v) (hl : es.length ≤ cap) :
      Rel w S φ (.row true sz es) (.slice (some ⟨g, off, none⟩) es.length cap) (g :: f)
  | own0 {φ : List (Option Loc)} (sz : Nat) (a : Option Addr) : Rel w S φ (.row true sz []) (.slice a 0 0) []
  | box {φ : List (Option Loc)} {cs : List A} {vs : List Value} {g off cap : Nat} {arr : Array Value} {ty : TypeId} {f : List Nat} (hh : w.heap[g]? = some (.cells arr ty (0, 0)))
      (hz : arr.size = off + cap * cs.length) (hl : 1 ≤ cap) (hc : ∀ (k : Nat) (v : Value), vs[k]? = some v → arr[off + k]? = some v) (hr : RelL w S φ cs vs f) : Rel w S φ (.box cs) (.pointer (some ⟨g, off, none⟩)) (g :: f)
  | agg {φ : List (Option Loc)} {cs : List A} {vs : List Value} {f : List Nat} (hr : RelL w S φ cs vs f) : Rel w S φ (.agg cs) (.agg vs.toArray) f
  | tup {φ : List (Option Loc)} {cs : List A} {vs : List Value} {f : List Nat} (hr : RelL w S φ cs vs f) : Rel w S φ (.tup cs) (.tuple vs.toArray) f
  | fn {φ : List (Option Loc)} {g : FuncId} {cs : List A} {vs : List Value} (hr : RelL w S φ cs vs []) : Rel w S φ (.fn g cs) (.func (.func g) #[] vs.toArray) []
  | sl {φ : List (Option Loc)} {m lo len c : Nat} {a : Option Addr} {l : Loc} (hm : φ[m]? = some (some l)) (hlo : lo + c = l.cap) (hl : len ≤ c)
      (ha : 0 < c → a = some ⟨l.g, l.off + lo * l.sz, none⟩) : Rel w S φ (.sl m lo len) (.slice a len c) []
  | ptr {φ : List (Option Loc)} {m i j : Nat} {l : Loc} (hm : φ[m]? = some (some l)) : Rel w S φ (.ptr m i j) (.pointer (some ⟨l.g, l.off + (i * l.sz + j), none⟩)) []
  | rp {φ : List (Option Loc)} {es : List (List A)} {vs : List Value} {ad : Addr} {sz i j : Nat} (hu : ∀ e ∈ es, e.length = sz) (hr : RelL w S [] es.flatten vs [])
      (hc : ∀ (k : Nat) (v : Value), vs[k]? = some v → w.cell? (ad.add k) = some v ∧ ¬ S ad.block) :
      Rel w S φ (.rp sz es i j) (.pointer (some (ad.add (i * sz + j)))) []
inductive RelL (w : World) (S : Nat → Prop) : List (Option Loc) → List A → List Value → List Nat → Prop
  | nil {φ : List (Option Loc)} : RelL w S φ [] [] []
  | cons {φ : List (Option Loc)} {a : A} {v : Value} {f : List Nat} {as : List A} {vs : List Value} {fs : List Nat} (h : Rel w S φ a v f) (hs : RelL w S φ as vs fs) : RelL w S φ (a :: as) (v :: vs) (f ++ fs)
end

/-- More places are known. -/
def Ext (φ φ' : List (Option Loc)) : Prop := ∀ (m : Nat) (l : Loc), φ[m]? = some (some l) → φ'[m]? = some (some l)
theorem Ext.refl (φ : List (Option Loc)) : Ext φ φ := fun _ _ h => h
theorem Ext.app (φ ls : List (Option Loc)) : Ext φ (φ ++ ls) := fun m l h => by
  have := (List.getElem?_eq_some_iff.1 h).1
  rw [List.getElem?_append_left this]; exact h

/-- Only blocks of T have changed. -/
structure Fr (T : Nat → Prop) (w w' : World) : Prop where
  os : w'.os = w.os
  tape : w'.tape = w.tape
  output : w'.output = w.output
  size : w.heap.size ≤ w'.heap.size
  block : ∀ b, b < w.heap.size → ¬ T b → w'.heap[b]? = w.heap[b]?

theorem Fr.refl (T : Nat → Prop) (w : World) : Fr T w w := ⟨rfl, rfl, rfl, Nat.le_refl _, fun _ _ _ => rfl⟩
theorem Fr.mono {T T' : Nat → Prop} {w w' : World} (h : Fr T w w') (hT : ∀ b, T b → T' b) : Fr T' w w' := ⟨h.os, h.tape, h.output, h.size, fun b hb hn => h.block b hb (fun ht => hn (hT b ht))⟩
theorem Fr.trans {T : Nat → Prop} {a b c : World} {T' : Nat → Prop} (h : Fr T a b) (k : Fr T' b c) (hT : ∀ x, T' x → T x ∨ a.heap.size ≤ x) : Fr T a c :=
  ⟨k.os.trans h.os, k.tape.trans h.tape, k.output.trans h.output, Nat.le_trans h.size k.size, fun x hx hn => (k.block x (Nat.lt_of_lt_of_le hx h.size) (fun ht => (hT x ht).elim hn (fun h => by omega))).trans (h.block x hx hn)⟩

theorem heap_lt {w : World} {g : Nat} {o : Obj} (h : w.heap[g]? = some o) : g < w.heap.size := (Array.getElem?_eq_some_iff.1 h).1
theorem add_block (a : Addr) (k : Nat) : (a.add k).block = a.block := by unfold Addr.add; split <;> rfl
theorem add_add (a : Addr) (x y : Nat) : (a.add x).add y = a.add (x + y) := by
  unfold Addr.add
  by_cases h1 : x = 0 <;> by_cases h2 : y = 0 <;> simp [h1, h2, Nat.add_assoc]
theorem add_mk (g o k : Nat) : (⟨g, o, none⟩ : Addr).add k = ⟨g, o + k, none⟩ := by unfold Addr.add; split <;> simp_all
theorem cell_lt {w : World} {a : Addr} {v : Value} (h : w.cell? a = some v) : a.block < w.heap.size := block_lt_of_cell h
theorem cell_congr {w w' : World} {a : Addr} (h : w'.heap[a.block]? = w.heap[a.block]?) : w'.cell? a = w.cell? a := by simp [World.cell?, h]

section frame
variable {w w' : World} {S S' T : Nat → Prop} {φ φ' : List (Option Loc)}

theorem keep_cell (hw : Fr T w w') (hS : ∀ b, S' b → S b ∨ w.heap.size ≤ b) (hT : ∀ b, T b → S b) {ad : Addr} {k : Nat} {v : Value} (h : w.cell? (ad.add k) = some v ∧ ¬ S ad.block) :
    w'.cell? (ad.add k) = some v ∧ ¬ S' ad.block := by
  have hlt := cell_lt h.1
  rw [add_block] at hlt
  refine ⟨(cell_congr ?_).trans h.1, fun hs => (hS _ hs).elim h.2 (fun hh => by omega)⟩
  rw [add_block]
  exact hw.block _ hlt (fun ht => h.2 (hT _ ht))
mutual
theorem Rel.frameA {φ : List (Option Loc)} {a : A} {v : Value} {f : List Nat} (hw : Fr T w w') (hS : ∀ b, S' b → S b ∨ w.heap.size ≤ b) (hT : ∀ b, T b → S b) :
    Rel w S φ a v f → (∀ g ∈ f, ¬ T g) → ∀ φ', Ext φ φ' → Rel w' S' φ' a v f
  | .any v, _, _, _ => .any v
  | .int k n, _, _, _ => .int k n
  | .bool b, _, _, _ => .bool b
  | .str s, _, _, _ => .str s
  | .nils, _, _, _ => .nils
  | .nilp, _, _, _ => .nilp
  | .ro hu hr hc hl, _, _, _ => .ro hu (RelL.frameA hw hS hT hr (by simp) [] (Ext.refl _)) (fun k v hv => keep_cell hw hS hT (hc k v hv)) hl
  | .ro0 sz a cap, _, _, _ => .ro0 sz a cap
  | .own hh hz hu hr hc hl, hf, φ', hφ => .own ((hw.block _ (heap_lt hh) (hf _ (by simp))).trans hh) hz hu (RelL.frameA hw hS hT hr (fun g hg => hf g (by simp [hg])) φ' hφ) hc hl
  | .own0 sz a, _, _, _ => .own0 sz a
  | .box hh hz hl hc hr, hf, φ', hφ => .box ((hw.block _ (heap_lt hh) (hf _ (by simp))).trans hh) hz hl hc (RelL.frameA hw hS hT hr (fun g hg => hf g (by simp [hg])) φ' hφ)
  | .agg hr, hf, φ', hφ => .agg (RelL.frameA hw hS hT hr hf φ' hφ)
  | .tup hr, hf, φ', hφ => .tup (RelL.frameA hw hS hT hr hf φ' hφ)
  | .fn hr, hf, φ', hφ => .fn (RelL.frameA hw hS hT hr hf φ' hφ)
  | .sl hm hlo hl ha, _, _, hφ => .sl (hφ _ _ hm) hlo hl ha
  | .ptr hm, _, _, hφ => .ptr (hφ _ _ hm)
  | .rp hu hr hc, _, _, _ => .rp hu (RelL.frameA hw hS hT hr (by simp) [] (Ext.refl _)) (fun k v hv => keep_cell hw hS hT (hc k v hv))
theorem RelL.frameA {φ : List (Option Loc)} {as : List A} {vs : List Value} {f : List Nat} (hw : Fr T w w') (hS : ∀ b, S' b → S b ∨ w.heap.size ≤ b) (hT : ∀ b, T b → S b) :
    RelL w S φ as vs f → (∀ g ∈ f, ¬ T g) → ∀ φ', Ext φ φ' → RelL w' S' φ' as vs f
  | .nil, _, _, _ => .nil
  | .cons h hs, hf, φ', hφ => .cons (Rel.frameA hw hS hT h (fun g hg => hf g (by simp [hg])) φ' hφ) (RelL.frameA hw hS hT hs (fun g hg => hf g (by simp [hg])) φ' hφ)
end
/-- What is told lives on where only other blocks change. -/
theorem Rel.frame {a : A} {v : Value} {f : List Nat} (hw : Fr T w w') (hS : ∀ b, S' b → S b ∨ w.heap.size ≤ b) (hT : ∀ b, T b → S b) (hφ : Ext φ φ') (h : Rel w S φ a v f) (hf : ∀ g ∈ f, ¬ T g) : Rel w' S' φ' a v f := Rel.frameA hw hS hT h hf φ' hφ
theorem RelL.frame {as : List A} {vs : List Value} {f : List Nat} (hw : Fr T w w') (hS : ∀ b, S' b → S b ∨ w.heap.size ≤ b) (hT : ∀ b, T b → S b) (hφ : Ext φ φ') (h : RelL w S φ as vs f) (hf : ∀ g ∈ f, ¬ T g) : RelL w' S' φ' as vs f := RelL.frameA hw hS hT h hf φ' hφ
end frame

theorem Rel.up {w : World} {S : Nat → Prop} {φ : List (Option Loc)} {a : A} {v : Value} {f : List Nat} (h : Rel w S [] a v f) : Rel w S φ a v f :=
  h.frame (Fr.refl (fun _ => False) w) (fun _ h => .inl h) (fun _ h => h.elim) (fun m l h => by simp at h) (fun _ _ h => h)
theorem RelL.up {w : World} {S : Nat → Prop} {φ : List (Option Loc)} {as : List A} {vs : List Value} {f : List Nat} (h : RelL w S [] as vs f) : RelL w S φ as vs f :=
  h.frame (Fr.refl (fun _ => False) w) (fun _ h => .inl h) (fun _ h => h.elim) (fun m l h => by simp at h) (fun _ _ h => h)
/-! ### Lists of values -/
section lists
variable {w : World} {S : Nat → Prop} {φ : List (Option Loc)}
theorem RelL.length {as : List A} {vs : List Value} {f : List Nat} (h : RelL w S φ as vs f) : as.length = vs.length := by
  induction as generalizing vs f with
  | nil => cases h; rfl
  | cons a as ih => cases h with | cons h hs => simp [ih hs]
/-- One place of a list, and what stands there instead. -/
theorem RelL.at_ {as : List A} {vs : List Value} {f : List Nat} (h : RelL w S φ as vs f) {k : Nat} {a : A} (hk : as[k]? = some a) :
    ∃ v f1 fa f2, vs[k]? = some v ∧ Rel w S φ a v fa ∧ f = f1 ++ (fa ++ f2) := by
  induction as generalizing vs f k with
  | nil => simp at hk
  | cons b as ih =>
    cases h with
    | cons h hs =>
      rename_i v fb vs fs
      cases k with
      | zero => simp at hk; subst hk; exact ⟨v, [], fb, fs, rfl, h, rfl⟩
      | succ k =>
        obtain ⟨u, f1, fa, f2, h1, h2, h3⟩ := ih hs (by simpa using hk)
        exact ⟨u, fb ++ f1, fa, f2, by simpa using h1, h2, by rw [h3]; simp⟩
theorem RelL.append {as bs : List A} {vs us : List Value} {f g : List Nat} (h : RelL w S φ as vs f) (k : RelL w S φ bs us g) : RelL w S φ (as ++ bs) (vs ++ us) (f ++ g) := by
  induction as generalizing vs f with
  | nil => cases h; simpa using k
  | cons a as ih => cases h with | cons h hs => rw [List.append_assoc]; exact .cons h (ih hs)
theorem RelL.split {as bs : List A} {vs : List Value} {f : List Nat} (h : RelL w S φ (as ++ bs) vs f) : ∃ us1 us2 f1 f2, vs = us1 ++ us2 ∧ f = f1 ++ f2 ∧ RelL w S φ as us1 f1 ∧ RelL w S φ bs us2 f2 := by
  induction as generalizing vs f with
  | nil => exact ⟨[], vs, [], f, rfl, rfl, .nil, h⟩
  | cons a as ih =>
    cases h with
    | cons h hs =>
      obtain ⟨us1, us2, f1, f2, h1, h2, h3, h4⟩ := ih hs
      exact ⟨_ :: us1, us2, _ ++ f1, f2, by rw [h1]; rfl, by rw [h2, List.append_assoc], .cons h h3, h4⟩
theorem RelL.take {as : List A} {vs : List Value} (h : RelL w S φ as vs []) (n : Nat) : RelL w S φ (as.take n) (vs.take n) [] := by
  induction as generalizing vs n with
  | nil => cases h; simpa using RelL.nil
  | cons a as ih =>
    generalize hf : ([] : List Nat) = f at h
    cases h with
    | cons h hs =>
      obtain ⟨e1, e2⟩ := List.append_eq_nil_iff.1 hf.symm
      subst e1 e2
      cases n with
      | zero => exact .nil
      | succ n => exact .cons (f := []) (fs := []) h (ih hs n)
theorem RelL.drop {as : List A} {vs : List Value} (h : RelL w S φ as vs []) (n : Nat) : RelL w S φ (as.drop n) (vs.drop n) [] := by
  induction as generalizing vs n with
  | nil => cases h; simpa using RelL.nil
  | cons a as ih =>
    generalize hf : ([] : List Nat) = f at h
    cases h with
    | cons h hs =>
      obtain ⟨e1, e2⟩ := List.append_eq_nil_iff.1 hf.symm
      subst e1 e2
      cases n with
      | zero => exact .cons (f := []) (fs := []) h hs
      | succ n => exact ih hs n
theorem RelL.none_at {as : List A} {vs : List Value} (h : RelL w S φ as vs []) {k : Nat} {a : A} (hk : as[k]? = some a) : ∃ v, vs[k]? = some v ∧ Rel w S φ a v [] := by
  obtain ⟨v, f1, fa, f2, h1, h2, h3⟩ := h.at_ hk
  have := List.append_eq_nil_iff.1 h3.symm
  have := List.append_eq_nil_iff.1 this.2
  rw [this.1] at h2
  exact ⟨v, h1, h2⟩
theorem flat_len {α : Type} {es : List (List α)} {sz : Nat} (hu : ∀ e ∈ es, e.length = sz) : es.flatten.length = es.length * sz := by
  induction es with
  | nil => simp
  | cons e es ih => simp [ih (fun x hx => hu x (by simp [hx])), hu e (by simp), Nat.add_mul]; omega
theorem flat_drop {α : Type} {es : List (List α)} {sz : Nat} (hu : ∀ e ∈ es, e.length = sz) (i : Nat) : es.flatten.drop (i * sz) = (es.drop i).flatten := by
  induction es generalizing i with
  | nil => simp
  | cons e es ih =>
    have he := hu e (by simp)
    cases i with
    | zero => simp
    | succ i =>
      rw [List.flatten_cons, List.drop_succ_cons, Nat.succ_mul, Nat.add_comm, ← List.drop_drop, ← he, List.drop_left, he]
      exact ih (fun x hx => hu x (by simp [hx])) i
theorem flat_take {α : Type} {es : List (List α)} {sz : Nat} (hu : ∀ e ∈ es, e.length = sz) (i : Nat) : es.flatten.take (i * sz) = (es.take i).flatten := by
  induction es generalizing i with
  | nil => simp
  | cons e es ih =>
    have he := hu e (by simp)
    cases i with
    | zero => simp
    | succ i =>
      rw [List.flatten_cons, List.take_succ_cons, List.flatten_cons, Nat.succ_mul, Nat.add_comm, ← he, List.take_length_add_append, he, ih (fun x hx => hu x (by simp [hx]))]
theorem flat_get {α : Type} {es : List (List α)} {sz i j : Nat} {e : List α} (hu : ∀ e ∈ es, e.length = sz) (hi : es[i]? = some e) (hj : j < sz) : es.flatten[i * sz + j]? = e[j]? := by
  have h := flat_drop hu i
  have h2 : es.flatten[i * sz + j]? = (es.drop i).flatten[j]? := by rw [← h, List.getElem?_drop]
  obtain ⟨hlt, he⟩ := List.getElem?_eq_some_iff.1 hi
  rw [h2, List.drop_eq_getElem_cons hlt, List.flatten_cons, List.getElem?_append_left (by rw [hu _ (List.getElem_mem hlt)]; exact hj), he]
theorem uni_take {α : Type} {es : List (List α)} {sz : Nat} (hu : ∀ e ∈ es, e.length = sz) (i : Nat) : ∀ e ∈ es.take i, e.length = sz := fun e he => hu e (List.mem_of_mem_take he)
theorem uni_drop {α : Type} {es : List (List α)} {sz : Nat} (hu : ∀ e ∈ es, e.length = sz) (i : Nat) : ∀ e ∈ es.drop i, e.length = sz := fun e he => hu e (List.mem_of_mem_drop he)
end lists

/-! ### Reading alone -/
mutual
/-- The same, read alone. What leads into the abstract heap is forgotten. -/
def ro : A → A
  | .row _ sz es => .row false sz (roLL es)
  | .box cs => .rp cs.length [roL cs] 0 0
  | .agg cs => .agg (roL cs)
  | .tup cs => .tup (roL cs)
  | .fn f cs => .fn f (roL cs)
  | .rp sz es i j => .rp sz (roLL es) i j
  | .sl .. => .any
  | .ptr .. => .any
  | .any => .any
  | .int k n => .int k n
  | .bool b => .bool b
  | .str s => .str s
  | .nils => .nils
  | .nilp => .nilp
def roL : List A → List A
  | [] => []
  | a :: as => ro a :: roL as
def roLL : List (List A) → List (List A)
  | [] => []
  | e :: es => roL e :: roLL es
end
theorem roL_map (as : List A) : roL as = as.map ro := by
  induction as with
  | nil => rfl
  | cons a as ih => simp [roL, ih]
theorem roLL_map (es : List (List A)) : roLL es = es.map roL := by
  induction es with
  | nil => rfl
  | cons a as ih => simp [roLL, ih]
theorem roLL_flatten (es : List (List A)) : (roLL es).flatten = roL es.flatten := by
  induction es with
  | nil => rfl
  | cons e es ih => simp [roLL, ih, roL_map]

section ro
variable {w : World} {S S' : Nat → Prop}
mutual
theorem Rel.ro_of {φ φ' : List (Option Loc)} {a : A} {v : Value} {f : List Nat} (hS : ∀ b, S' b → S b) (h : Rel w S φ a v f) (hf : ∀ b ∈ f, ¬ S' b) : Rel w S' φ' (ro a) v [] :=
  match h with
  | .any v => .any v
  | .int k n => .int k n
  | .bool b => .bool b
  | .str s => .str s
  | .nils => .nils
  | .nilp => .nilp
  | .ro (es := es) hu hr hc hl => by
    have h1 : (roLL es).length = es.length := by rw [roLL_map]; simp
    rw [← h1] at hl ⊢
    exact .ro (by rw [roLL_map]; intro e he; obtain ⟨x, hx, rfl⟩ := List.mem_map.1 he; rw [roL_map, List.length_map]; exact hu x hx) (by rw [roLL_flatten]; exact RelL.ro_of hS hr (by simp)) (fun k v hv => ⟨(hc k v hv).1, fun hs => (hc k v hv).2 (hS _ hs)⟩) hl
  | .ro0 sz a cap => .ro0 sz a cap
  | .own (es := es) (off := off) hh hz hu hr hc hl => by
    have h1 : (roLL es).length = es.length := by rw [roLL_map]; simp
    rw [← h1] at hl ⊢
    exact .ro (by rw [roLL_map]; intro e he; obtain ⟨x, hx, rfl⟩ := List.mem_map.1 he; rw [roL_map, List.length_map]; exact hu x hx) (by rw [roLL_flatten]; exact RelL.ro_of hS hr (fun b hb => hf b (by simp [hb])))
      (fun k v hv => ⟨by rw [add_mk]; simp only [World.cell?, hh]; simpa using hc k v hv, hf _ (by simp)⟩) hl
  | .own0 sz a => .ro0 sz a 0
  | .box (cs := cs) (g := g) (off := off) hh hz hl hc hr => by
    have := Rel.rp (w := w) (S := S') (φ := φ') (es := [roL cs]) (ad := ⟨g, off, none⟩) (sz := cs.length) (i := 0) (j := 0) (by simp [roL_map]) (by simpa using RelL.ro_of hS hr (fun b hb => hf b (by simp [hb])))
      (fun k v hk => ⟨by rw [add_mk]; simp only [World.cell?, hh]; simpa using hc k v hk, hf _ (by simp)⟩)
    rw [add_mk] at this
    simpa [ro] using this
  | .agg hr => .agg (RelL.ro_of hS hr hf)
  | .tup hr => .tup (RelL.ro_of hS hr hf)
  | .fn hr => .fn (RelL.ro_of hS hr hf)
  | .sl .. => .any _
  | .ptr .. => .any _
  | .rp (es := es) hu hr hc => .rp (by rw [roLL_map]; intro e he; obtain ⟨x, hx, rfl⟩ := List.mem_map.1 he; rw [roL_map, List.length_map]; exact hu x hx) (by rw [roLL_flatten]; exact RelL.ro_of hS hr (by simp)) (fun k v hv => ⟨(hc k v hv).1, fun hs => (hc k v hv).2 (hS _ hs)⟩)
theorem RelL.ro_of {φ φ' : List (Option Loc)} {as : List A} {vs : List Value} {f : List Nat} (hS : ∀ b, S' b → S b) (h : RelL w S φ as vs f) (hf : ∀ b ∈ f, ¬ S' b) : RelL w S' φ' (roL as) vs [] :=
  match h with
  | .nil => .nil
  | .cons h hs => .cons (f := []) (fs := []) (Rel.ro_of hS h (fun g hg => hf g (by simp [hg]))) (RelL.ro_of hS hs (fun g hg => hf g (by simp [hg])))
end
end ro

/-! ### Blocks and the abstract heap -/
def BRel (w : World) (S : Nat → Prop) (φ : List (Option Loc)) (b : Option Blk) (l : Option Loc) (f : List Nat) : Prop :=
  match b, l with
  | none, _ => f = []
  | some _, none => False
  | some (sz, es), some l => l.sz = sz ∧ ((l.cap = 0 ∧ es = [] ∧ f = []) ∨
    ∃ (arr : Array Value) (ty : TypeId) (vs : List Value) (f0 : List Nat), f = l.g :: f0 ∧ w.heap[l.g]? = some (.cells arr ty (0, 0)) ∧ arr.size = l.off + l.cap * sz ∧ (∀ e ∈ es, e.length = sz) ∧
      RelL w S φ es.flatten vs f0 ∧ (∀ (k : Nat) (v : Value), vs[k]? = some v → arr[l.off + k]? = some v) ∧ es.length ≤ l.cap)
inductive HRel (w : World) (S : Nat → Prop) (φ : List (Option Loc)) : Heap → List (Option Loc) → List Nat → Prop
  | nil : HRel w S φ [] [] []
  | cons {b : Option Blk} {l : Option Loc} {f : List Nat} {bs : Heap} {ls : List (Option Loc)} {fs : List Nat} (h : BRel w S φ b l f) (hs : HRel w S φ bs ls fs) : HRel w S φ (b :: bs) (l :: ls) (f ++ fs)

theorem BRel.frame {w w' : World} {S S' T : Nat → Prop} {φ φ' : List (Option Loc)} {b : Option Blk} {l : Option Loc} {f : List Nat} (hw : Fr T w w') (hS : ∀ b, S' b → S b ∨ w.heap.size ≤ b) (hT : ∀ b, T b → S b)
    (hφ : Ext φ φ') (h : BRel w S φ b l f) (hf : ∀ g ∈ f, ¬ T g) : BRel w' S' φ' b l f := by
  cases b with
  | none => exact h
  | some es =>
   cases l with
   | none => exact h.elim
   | some l =>
    obtain ⟨hz, h⟩ := h
    refine ⟨hz, ?_⟩
    rcases h with h | ⟨arr, ty, vs, f0, rfl, h1, h2, h3, h4, h5, h6⟩
    · exact .inl h
    · exact .inr ⟨arr, ty, vs, f0, rfl, (hw.block _ (heap_lt h1) (hf _ (by simp))).trans h1, h2, h3, h4.frame hw hS hT hφ (fun g hg => hf g (by simp [hg])), h5, h6⟩
theorem HRel.frame {w w' : World} {S S' T : Nat → Prop} {φ φ' : List (Option Loc)} {h : Heap} {ls : List (Option Loc)} {f : List Nat} (hw : Fr T w w') (hS : ∀ b, S' b → S b ∨ w.heap.size ≤ b) (hT : ∀ b, T b → S b)
    (hφ : Ext φ φ') (H : HRel w S φ h ls f) (hf : ∀ g ∈ f, ¬ T g) : HRel w' S' φ' h ls f := by
  induction H with
  | nil => exact .nil
  | cons h hs ih => exact .cons (h.frame hw hS hT hφ (fun g hg => hf g (by simp [hg]))) (ih (fun g hg => hf g (by simp [hg])))
theorem HRel.length {w : World} {S : Nat → Prop} {φ : List (Option Loc)} {h : Heap} {ls : List (Option Loc)} {f : List Nat} (H : HRel w S φ h ls f) : ls.length = h.length := by
  induction H with
  | nil => rfl
  | cons h hs ih => simp [ih]
mutual
theorem Rel.lt {w : World} {S : Nat → Prop} {φ : List (Option Loc)} {a : A} {v : Value} {f : List Nat} (h : Rel w S φ a v f) (b : Nat) (hb : b ∈ f) : b < w.heap.size :=
  match h with
  | .own hh hz hu hr hc hl => by
    rcases List.mem_cons.1 hb with rfl | hb
    · exact heap_lt hh
    · exact RelL.lt hr b hb
  | .box hh hz hl hc hr => by
    rcases List.mem_cons.1 hb with rfl | hb
    · exact heap_lt hh
    · exact RelL.lt hr b hb
  | .agg hr => RelL.lt hr b hb
  | .tup hr => RelL.lt hr b hb
  | .any _ => absurd hb (by simp)
  | .int _ _ => absurd hb (by simp)
  | .bool _ => absurd hb (by simp)
  | .str _ => absurd hb (by simp)
  | .nils => absurd hb (by simp)
  | .nilp => absurd hb (by simp)
  | .ro .. => absurd hb (by simp)
  | .ro0 .. => absurd hb (by simp)
  | .own0 .. => absurd hb (by simp)
  | .fn .. => absurd hb (by simp)
  | .sl .. => absurd hb (by simp)
  | .ptr .. => absurd hb (by simp)
  | .rp .. => absurd hb (by simp)
theorem RelL.lt {w : World} {S : Nat → Prop} {φ : List (Option Loc)} {as : List A} {vs : List Value} {f : List Nat} (h : RelL w S φ as vs f) (b : Nat) (hb : b ∈ f) : b < w.heap.size :=
  match h with
  | .nil => absurd hb (by simp)
  | .cons h hs => (List.mem_append.1 hb).elim (Rel.lt h b) (RelL.lt hs b)
end
theorem BRel.lt {w : World} {S : Nat → Prop} {φ : List (Option Loc)} {b : Option Blk} {l : Option Loc} {f : List Nat} (h : BRel w S φ b l f) (g : Nat) (hg : g ∈ f) : g < w.heap.size := by
  cases b with
  | none => simp only [BRel] at h; subst h; simp at hg
  | some es =>
   cases l with
   | none => exact h.elim
   | some l =>
    obtain ⟨_, h | ⟨arr, ty, vs, f0, rfl, h1, h2, h3, h4, h5, h6⟩⟩ := h
    · rw [h.2.2] at hg; simp at hg
    · rcases List.mem_cons.1 hg with rfl | hg
      · exact heap_lt h1
      · exact h4.lt g hg
theorem HRel.lt {w : World} {S : Nat → Prop} {φ : List (Option Loc)} {h : Heap} {ls : List (Option Loc)} {f : List Nat} (H : HRel w S φ h ls f) : ∀ b ∈ f, b < w.heap.size := by
  induction H with
  | nil => simp
  | cons h hs ih => intro b hb; exact (List.mem_append.1 hb).elim (h.lt b) (ih b)
theorem HRel.snoc {w : World} {S : Nat → Prop} {φ : List (Option Loc)} {h : Heap} {ls : List (Option Loc)} {f fb : List Nat} {b : Option Blk} {l : Option Loc} (H : HRel w S φ h ls f) (hb : BRel w S φ b l fb) : HRel w S φ (h ++ [b]) (ls ++ [l]) (f ++ fb) := by
  induction H with
  | nil => simpa using HRel.cons hb .nil
  | cons h hs ih => rw [List.append_assoc]; exact .cons h ih
/-- One block of the heap; and another one in its place, the others living on. -/
theorem HRel.at_ {w : World} {S : Nat → Prop} {φ : List (Option Loc)} {h : Heap} {ls : List (Option Loc)} {f : List Nat} (H : HRel w S φ h ls f) {m : Nat} {b : Option Blk} (hm : h[m]? = some b) :
    ∃ l f1 fb f2, ls[m]? = some l ∧ BRel w S φ b l fb ∧ f = f1 ++ (fb ++ f2) ∧
      ∀ (w' : World) (S' T : Nat → Prop) (φ' : List (Option Loc)) (b' : Option Blk) (fb' : List Nat), Fr T w w' → (∀ b, S' b → S b ∨ w.heap.size ≤ b) → (∀ b, T b → S b) → Ext φ φ' →
        (∀ g ∈ f1, ¬ T g) → (∀ g ∈ f2, ¬ T g) → BRel w' S' φ' b' l fb' → HRel w' S' φ' (h.set m b') ls (f1 ++ (fb' ++ f2)) := by
  induction H generalizing m with
  | nil => simp at hm
  | cons h0 hs ih =>
    rename_i b0 l0 f0 bs ls0 fs0
    cases m with
    | zero =>
      simp at hm; subst hm
      refine ⟨l0, [], f0, fs0, rfl, h0, rfl, fun w' S' T φ' b' fb' hw hS hT hφ h1 h2 hb => ?_⟩
      rw [List.nil_append]; exact .cons hb (hs.frame hw hS hT hφ h2)
    | succ m =>
      obtain ⟨l, f1, fb, f2, e1, e2, e3, e4⟩ := ih (by simpa using hm)
      refine ⟨l, f0 ++ f1, fb, f2, by simpa using e1, e2, by rw [e3]; simp, fun w' S' T φ' b' fb' hw hS hT hφ h1 h2 hb => ?_⟩
      rw [List.append_assoc]
      exact .cons (h0.frame hw hS hT hφ (fun g hg => h1 g (by simp [hg]))) (e4 w' S' T φ' b' fb' hw hS hT hφ (fun g hg => h1 g (by simp [hg])) h2 hb)

/-! ### States -/
/-- What is known of the places of a call, and of the memory that it may write. -/
structure St where
  env : List (Nat × A)
  heap : Heap
  n : Nat
def look : List (Nat × A) → Nat → A
  | [], _ => .any
  | (j, a) :: r, i => if Nat.beq i j then a else look r i
def St.put (st : St) (d : Nat) (a : A) : St := { st with env := (d, a) :: st.env }
def Sof (S0 : Nat → Prop) (fs : List Nat) : Nat → Prop := fun b => S0 b ∨ b ∈ fs
structure SRel (S0 : Nat → Prop) (st : St) (a : Act) (w : World) (φ : List (Option Loc)) (fs : List Nat) : Prop where
  defers : a.defers = []
  size : a.tmps.size = st.n
  env : ∀ i, Rel w (Sof S0 fs) φ (look st.env i) (a.tmps.getD i undef) []
  heap : HRel w (Sof S0 fs) φ st.heap φ fs
  nodup : fs.Nodup
  apart : ∀ b ∈ fs, ¬ S0 b
  low : ∀ b, S0 b → b < w.heap.size
end Go.Proofs.Ytpdhoimpbiehkaa.Ab
