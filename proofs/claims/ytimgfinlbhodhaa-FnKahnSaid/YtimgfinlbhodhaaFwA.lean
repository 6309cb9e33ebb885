/- Walking functions over abstract states: part 1. Plain definitions and lemmas about the machine; no program in sight. -/
import Derived.Calls
import Derived.Laws.Rows
import Derived.Laws.Slices
import Derived.Laws.Entries
import Derived.Laws.MakeOwn
import Derived.Great.BuildSlice
import Derived.Laws.CopyRow
import Derived.Laws.Append
import Derived.Laws.AppendOwn
import Derived.Laws.IdiomCopy
import Derived.Tactics
namespace Go.Proofs.Ytimgfinlbhodhaa.Ab
open Go
theorem zqz : (∀ {p : Prop} [Decidable p], (decide p = true) = p) ∧ (∀ {p : Prop} {x : Decidable p}, decide p = false ↔ ¬p) ∧ (∀ (a b : Bool), ((a && b) = true) = (a = true ∧ b = true)) ∧ (∀ {x y : Bool}, (x && y) = false ↔ x = true → y = false) ∧ (∀ (a b : Bool), ((a || b) = true) = (a = true ∨ b = true)) ∧ (∀ {x y : Bool}, (x || y) = false ↔ x = false ∧ y = false) ∧ (∀ (b : Bool), ((!b) = true) = (b = false)) ∧ (∀ (b : Bool), ((!b) = false) = (b = true)) ∧ (∀ {a b : Nat}, ¬a < b ↔ b ≤ a) ∧ (∀ {a b : Nat}, ¬a ≤ b ↔ b < a) ∧ (∀ {a b : Int}, ¬a < b ↔ b ≤ a) ∧ (∀ {a b : Int}, ¬a ≤ b ↔ b < a) ∧ (∀ {n m : Nat}, (n : Int) < m ↔ n < m) ∧ (∀ {m n : Nat}, (m : Int) ≤ n ↔ m ≤ n) ∧ (∀ {α : Type} [BEq α] [LawfulBEq α] {a b : α}, (a != b) = true ↔ a ≠ b) ∧ (∀ {α : Type} [BEq α] [LawfulBEq α] {a b : α}, (a == b) = true ↔ a = b) ∧ (∀ {α : Type} [BEq α] [LawfulBEq α] {a b : α}, (a != b) = false ↔ a = b) ∧ (∀ {α : Type} [BEq α] [LawfulBEq α] {a b : α}, (a == b) = false ↔ a ≠ b) ∧ (∀ {α : Type} (a b : α), (a ≠ b) = ¬a = b) ∧ (∀ {α : Type} [LT α] {x y : α}, x > y ↔ y < x) ∧ (∀ {α : Type} [LE α] {x y : α}, x ≥ y ↔ y ≤ x) :=
 ⟨decide_eq_true_eq, decide_eq_false_iff_not, Bool.and_eq_true, Bool.and_eq_false_imp, Bool.or_eq_true, Bool.or_eq_false_iff, Bool.not_eq_true', Bool.not_eq_false', Nat.not_lt, Nat.not_le, Int.not_lt, Int.not_le, Int.ofNat_lt, Int.ofNat_le, bne_iff_ne, beq_iff_eq, bne_eq_false_iff_eq, beq_eq_false_iff_ne, ne_eq, gt_iff_lt, ge_iff_le⟩
theorem zqs : (∀ {α : Type} [BEq α] [ReflBEq α] {a : α}, (a == a) = true) ∧ (∀ (b : Bool), (b && false) = false) ∧ (∀ (b : Bool), (b && b) = b) ∧ (∀ (b : Bool), (b && true) = b) ∧ (∀ (b : Bool), (false && b) = false) ∧ ((false = true) = False) ∧ (∀ (b : Bool), (false || b) = b) ∧ ((!false) = true) ∧ ((!true) = false) ∧ (∀ (b : Bool), (b || false) = b) ∧ (∀ (b : Bool), (b || b) = b) ∧ (∀ (b : Bool), (b || true) = true) ∧ (∀ (b : Bool), (true && b) = b) ∧ (∀ (b : Bool), (true || b) = true) ∧ (Int.toNat 0 = 0) ∧ (∀ {α : Type} {a : α} {l : List α} {f : α → Bool}, List.all (a :: l) f = (f a && List.all l f)) ∧ (∀ {α : Type} {f : α → Bool}, List.all [] f = true) ∧ (∀ {α : Type} (as : List α), as ++ [] = as) ∧ (∀ {α : Type} {a : α} {as bs : List α}, a :: as ++ bs = a :: (as ++ bs)) ∧ (∀ {α : Type} {a : α} [BEq α], List.contains [] a = false) ∧ (∀ {α : Type} {a : α} {l : List α} {i : Nat}, List.drop (i + 1) (a :: l) = List.drop i l) ∧ (∀ {α : Type} {l : List α}, List.drop 0 l = l) ∧ (∀ {α : Type} {β : Type} {f : α → Option β}, List.filterMap f [] = []) ∧ (∀ {α : Type} {a : α} {i : Nat} {l : List α}, (a :: l)[i + 1]? = l[i]?) ∧ (∀ {α : Type} {a : α} {l : List α}, (a :: l)[0]? = some a) ∧ (∀ {α : Type} {xs : List α} {i : Nat}, (List.toArray xs)[i]? = xs[i]?) ∧ (∀ {α : Type} {a : α} {l : List α}, List.head? (a :: l) = some a) ∧ (∀ {α : Type} {as bs : List α}, List.length (as ++ bs) = List.length as + List.length bs) ∧ (∀ {α : Type} {a : α} {as : List α}, List.length (a :: as) = List.length as + 1) ∧ (∀ {α : Type} {i : Nat} {l : List α}, List.length (List.drop i l) = List.length l - i) ∧ (∀ {α : Type} {n : Nat} {a : α}, List.length (List.replicate n a) = n) ∧ (∀ {α : Type} {as : List α} {i : Nat} {a : α}, List.length (List.set as i a) = List.length as) ∧ (∀ {α : Type} {i : Nat} {l : List α}, List.length (List.take i l) = min i (List.length l)) ∧ (∀ {α : Type} {β : Type} {f : α → β}, List.map f [] = []) ∧ (∀ {α : Type} {b : α} {l : List α} {a : α}, a ∈ b :: l ↔ a = b ∨ a ∈ l) ∧ (∀ {α : Type} (as : List α), [] ++ as = as) ∧ (∀ {α : Type} {a : α}, ¬a ∈ []) ∧ (∀ {α : Type} {a : α} {n : Nat}, List.replicate (n + 1) a = a :: List.replicate n a) ∧ (∀ {α : Type} {a : α}, List.replicate 0 a = []) ∧ (∀ {α : Type} {x : α} {xs : List α} {a : α}, List.set (x :: xs) 0 a = a :: xs) ∧ (∀ {α : Type} {i : Nat} {a : α}, List.set [] i a = []) ∧ (∀ {α : Type} {as : List α}, Array.size (List.toArray as) = List.length as) ∧ (∀ {α : Type} {l : List α}, List.take 0 l = []) ∧ (∀ (n m : Nat), n + m - m = n) ∧ (∀ (n : Nat), n + 0 = n) ∧ (∀ (n : Nat), n ≤ n) ∧ (∀ (n : Nat), ¬n < n) ∧ (∀ (n : Nat), n * 1 = n) ∧ (∀ (n : Nat), ¬n < 0) ∧ (∀ (n : Nat), 1 * n = n) ∧ (∀ (n : Nat), n - 0 = n) ∧ (∀ (n : Nat), 0 + n = n) ∧ (∀ (n : Nat), 0 ≤ n) ∧ (∀ {α : Type} {β : Type} (a : α) (f : α → Option β), Option.bind (some a) f = f a) ∧ (∀ {α : Type} {a b : α}, Option.getD (some a) b = a) ∧ (∀ {α : Type} {β : Type} (f : α → β), Option.map f none = none) ∧ (∀ {α : Type} {β : Type} (a : α) (f : α → β), Option.map f (some a) = some (f a)) ∧ (∀ {α : Type} (val val_1 : α), (some val = some val_1) = (val = val_1)) ∧ (∀ {α : Type} [BEq α] {a b : α}, (some a == some b) = (a == b)) ∧ (∀ (p : Prop), (p ∧ False) = False) ∧ (∀ (p : Prop), (p ∧ p) = p) ∧ (∀ (p : Prop), (p ∧ True) = p) ∧ (∀ {α : Type} [BEq α] [ReflBEq α] (a : α), (a == a) = true) ∧ (∀ (h : Decidable False), decide False = false) ∧ (∀ (h : Decidable True), decide True = true) ∧ (∀ {α : Type} (a : α), (a = a) = True) ∧ (∀ (p : Prop), (False ∧ p) = False) ∧ (∀ (p : Prop), (False ∨ p) = p) ∧ (∀ {α : Type} {x : Decidable False} (t e : α), (if False then t else e) = e) ∧ (∀ {α : Type} {x : Decidable True} (t e : α), (if True then t else e) = t) ∧ (∀ {α : Type} (a b : α), (if False then a else b) = b) ∧ (∀ {α : Type} (a b : α), (if True then a else b) = a) ∧ (∀ {α : Type} (a b : α), (a ≠ b) = ¬a = b) ∧ ((¬False) = True) ∧ ((¬True) = False) ∧ (∀ (p : Prop), (p ∨ False) = p) ∧ (∀ (p : Prop), (p ∨ p) = p) ∧ (∀ (p : Prop), (p ∨ True) = True) ∧ (∀ (p : Prop), (True ∧ p) = p) ∧ (∀ (p : Prop), (True ∨ p) = True) := And.intro @BEq.rfl (And.intro @Bool.and_false (And.intro @Bool.and_self (And.intro @Bool.and_true (And.intro @Bool.false_and (And.intro @Bool.false_eq_true (And.intro @Bool.false_or (And.intro @Bool.not_false (And.intro @Bool.not_true (And.intro @Bool.or_false (And.intro @Bool.or_self (And.intro @Bool.or_true (And.intro @Bool.true_and (And.intro @Bool.true_or (And.intro @Int.toNat_zero (And.intro @List.all_cons (And.intro @List.all_nil (And.intro @List.append_nil (And.intro @List.cons_append (And.intro @List.contains_nil (And.intro @List.drop_succ_cons (And.intro @List.drop_zero (And.intro @List.filterMap_nil (And.intro @List.getElem?_cons_succ (And.intro @List.getElem?_cons_zero (And.intro @List.getElem?_toArray (And.intro @List.head?_cons (And.intro @List.length_append (And.intro @List.length_cons (And.intro @List.length_drop (And.intro @List.length_replicate (And.intro @List.length_set (And.intro @List.length_take (And.intro @List.map_nil (And.intro @List.mem_cons (And.intro @List.nil_append (And.intro @List.not_mem_nil (And.intro @List.replicate_succ (And.intro @List.replicate_zero (And.intro @List.set_cons_zero (And.intro @List.set_nil (And.intro @List.size_toArray (And.intro @List.take_zero (And.intro @Nat.add_sub_cancel (And.intro @Nat.add_zero (And.intro @Nat.le_refl (And.intro @Nat.lt_irrefl (And.intro @Nat.mul_one (And.intro @Nat.not_lt_zero (And.intro @Nat.one_mul (And.intro @Nat.sub_zero (And.intro @Nat.zero_add (And.intro @Nat.zero_le (And.intro @Option.bind_some (And.intro @Option.getD_some (And.intro @Option.map_none (And.intro @Option.map_some (And.intro @Option.some.injEq (And.intro @Option.some_beq_some (And.intro @and_false (And.intro @and_self (And.intro @and_true (And.intro @beq_self_eq_true (And.intro @decide_false (And.intro @decide_true (And.intro @eq_self (And.intro @false_and (And.intro @false_or (And.intro @if_false (And.intro @if_true (And.intro @ite_false (And.intro @ite_true (And.intro @ne_eq (And.intro @not_false_eq_true (And.intro @not_true_eq_false (And.intro @or_false (And.intro @or_self (And.intro @or_true (And.intro @true_and (@true_or)))))))))))))))))))))))))))))))))))))))))))))))))))))))))))))))))))))))))))))))
set_option linter.unusedVariables false
set_option linter.unusedSimpArgs false
inductive A where
 | any
 | int (k : IntKind) (n : Int)
 | bool (b : Bool)
 | str (s : ByteArray)
 | nils
 | nilp
 | row (own : Bool) (sz : Nat) (es : List (List A))
 | box (cs : List A)
 | agg (cs : List A)
 | tup (vs : List A)
 | fn (f : FuncId) (caps : List A)
 | sl (m lo len : Nat)
 | ptr (m i j : Nat)
 | rp (sz : Nat) (es : List (List A)) (i j : Nat)
 deriving Inhabited
abbrev Blk := Nat × List (List A)
abbrev Heap := List (Option Blk)
structure Loc where
 g : Nat
 off : Nat
 cap : Nat
 sz : Nat
mutual
/-- Value v is told by the abstract value in the world w; S: the blocks that may change; the list: blocks of its own. -/
inductive Rel (w : World) (S : Nat → Prop) : List (Option Loc) → A → Value → List Nat → Prop
 | any {φ : List (Option Loc)} (v : Value) : Rel w S φ .any v []
 | int {φ : List (Option Loc)} (k : IntKind) (n : Int) : Rel w S φ (.int k n) (.int k n) []
 | bool {φ : List (Option Loc)} (b : Bool) : Rel w S φ (.bool b) (.bool b) []
 | str {φ : List (Option Loc)} (s : ByteArray) : Rel w S φ (.str s) (.string s) []
 | nils {φ : List (Option Loc)} : Rel w S φ .nils (.slice none 0 0) []
 | nilp {φ : List (Option Loc)} : Rel w S φ .nilp (.pointer none) []
 | ro {φ : List (Option Loc)} {es : List (List A)} {vs : List Value} {ad : Addr} {cap sz : Nat} (hu : ∀ e ∈ es, e.length = sz) (hr : RelL w S [] es.flatten vs [])
   (hc : ∀ (k : Nat) (v : Value), vs[k]? = some v → w.cell? (ad.add k) = some v ∧ ¬ S ad.block) (hl : es.length ≤ cap) :
   Rel w S φ (.row false sz es) (.slice (some ad) es.length cap) []
 | ro0 {φ : List (Option Loc)} (sz : Nat) (a : Option Addr) (cap : Nat) : Rel w S φ (.row false sz []) (.slice a 0 cap) []
 | own {φ : List (Option Loc)} {es : List (List A)} {vs : List Value} {g off cap sz : Nat} {arr : Array Value} {ty : TypeId} {f : List Nat} (hh : w.heap[g]? = some (.cells arr ty (0, 0)))
   (hz : arr.size = off + cap * sz) (hu : ∀ e ∈ es, e.length = sz) (hr : RelL w S φ es.flatten vs f)
   (hc : ∀ (k : Nat) (v : Value), vs[k]? = some v → arr[off + k]? = some v) (hl : es.length ≤ cap) :
   Rel w S φ (.row true sz es) (.slice (some ⟨g, off, none⟩) es.length cap) (g :: f)
 | own0 {φ : List (Option Loc)} (sz : Nat) (a : Option Addr) : Rel w S φ (.row true sz []) (.slice a 0 0) []
 | box {φ : List (Option Loc)} {cs : List A} {vs : List Value} {g off cap : Nat} {arr : Array Value} {ty : TypeId} {f : List Nat} (hh : w.heap[g]? = some (.cells arr ty (0, 0)))
   (hz : arr.size = off + cap * cs.length) (hl : 1 ≤ cap) (hc : ∀ (k : Nat) (v : Value), vs[k]? = some v → arr[off + k]? = some v) (hr : RelL w S φ cs vs f) : Rel w S φ (.box cs) (.pointer (some ⟨g, off, none⟩)) (g :: f)
 | agg {φ : List (Option Loc)} {cs : List A} {vs : List Value} {f : List Nat} (hr : RelL w S φ cs vs f) : Rel w S φ (.agg cs) (.agg vs.toArray) f
 | tup {φ : List (Option Loc)} {cs : List A} {vs : List Value} {f : List Nat} (hr : RelL w S φ cs vs f) : Rel w S φ (.tup cs) (.tuple vs.toArray) f
 | fn {φ : List (Option Loc)} {g : FuncId} {cs : List A} {vs : List Value} (hr : RelL w S φ cs vs []) : Rel w S φ (.fn g cs) (.func (.func g) #[] vs.toArray) []
 | sl {φ : List (Option Loc)} {m lo len c : Nat} {a : Option Addr} {l : Loc} (hm : φ[m]? = some (some l)) (hlo : lo + c = l.cap) (hl : len ≤ c)
   (ha : 0 < c → a = some ⟨l.g, l.off + lo * l.sz, none⟩) : Rel w S φ (.sl m lo len) (.slice a len c) []
 | ptr {φ : List (Option Loc)} {m i j : Nat} {l : Loc} (hm : φ[m]? = some (some l)) : Rel w S φ (.ptr m i j) (.pointer (some ⟨l.g, l.off + (i * l.sz + j), none⟩)) []
 | rp {φ : List (Option Loc)} {es : List (List A)} {vs : List Value} {ad : Addr} {sz i j : Nat} (hu : ∀ e ∈ es, e.length = sz) (hr : RelL w S [] es.flatten vs [])
   (hc : ∀ (k : Nat) (v : Value), vs[k]? = some v → w.cell? (ad.add k) = some v ∧ ¬ S ad.block) :
   Rel w S φ (.rp sz es i j) (.pointer (some (ad.add (i * sz + j)))) []
inductive RelL (w : World) (S : Nat → Prop) : List (Option Loc) → List A → List Value → List Nat → Prop
 | nil {φ : List (Option Loc)} : RelL w S φ [] [] []
 | cons {φ : List (Option Loc)} {a : A} {v : Value} {f : List Nat} {as : List A} {vs : List Value} {fs : List Nat} (h : Rel w S φ a v f) (hs : RelL w S φ as vs fs) : RelL w S φ (a :: as) (v :: vs) (f ++ fs)
end
def Ext (φ φ' : List (Option Loc)) : Prop := ∀ (m : Nat) (l : Loc), φ[m]? = some (some l) → φ'[m]? = some (some l)
theorem Ext.refl (φ : List (Option Loc)) : Ext φ φ := fun _ _ h => h
theorem Ext.app (φ ls : List (Option Loc)) : Ext φ (φ ++ ls) := fun m l h => by
 have := (List.getElem?_eq_some_iff.1 h).1
 rw [List.getElem?_append_left this]; exact h
structure Fr (T : Nat → Prop) (w w' : World) : Prop where
 os : w'.os = w.os
 tape : w'.tape = w.tape
 output : w'.output = w.output
 size : w.heap.size ≤ w'.heap.size
 block : ∀ b, b < w.heap.size → ¬ T b → w'.heap[b]? = w.heap[b]?
theorem Fr.refl (T : Nat → Prop) (w : World) : Fr T w w := ⟨rfl, rfl, rfl, Nat.le_refl _, fun _ _ _ => rfl⟩
theorem Fr.mono {T T' : Nat → Prop} {w w' : World} (h : Fr T w w') (hT : ∀ b, T b → T' b) : Fr T' w w' := ⟨h.os, h.tape, h.output, h.size, fun b hb hn => h.block b hb (fun ht => hn (hT b ht))⟩
theorem Fr.trans {T : Nat → Prop} {a b c : World} {T' : Nat → Prop} (h : Fr T a b) (k : Fr T' b c) (hT : ∀ x, T' x → T x ∨ a.heap.size ≤ x) : Fr T a c :=
 ⟨k.os.trans h.os, k.tape.trans h.tape, k.output.trans h.output, Nat.le_trans h.size k.size, fun x hx hn => (k.block x (Nat.lt_of_lt_of_le hx h.size) (fun ht => (hT x ht).elim hn (fun h => by omega))).trans (h.block x hx hn)⟩
theorem heap_lt {w : World} {g : Nat} {o : Obj} (h : w.heap[g]? = some o) : g < w.heap.size := (Array.getElem?_eq_some_iff.1 h).1
theorem add_block (a : Addr) (k : Nat) : (a.add k).block = a.block := by unfold Addr.add; split <;> rfl
theorem add_add (a : Addr) (x y : Nat) : (a.add x).add y = a.add (x + y) := by
 unfold Addr.add
 by_cases h1 : x = 0 <;> by_cases h2 : y = 0 <;> simp [h1, h2, Nat.add_assoc]
theorem add_mk (g o k : Nat) : (⟨g, o, none⟩ : Addr).add k = ⟨g, o + k, none⟩ := by unfold Addr.add; split <;> simp_all
theorem cell_lt {w : World} {a : Addr} {v : Value} (h : w.cell? a = some v) : a.block < w.heap.size := block_lt_of_cell h
theorem cell_congr {w w' : World} {a : Addr} (h : w'.heap[a.block]? = w.heap[a.block]?) : w'.cell? a = w.cell? a := by simp [World.cell?, h]
section frame
variable {w w' : World} {S S' T : Nat → Prop} {φ φ' : List (Option Loc)}
theorem keep_cell (hw : Fr T w w') (hS : ∀ b, S' b → S b ∨ w.heap.size ≤ b) (hT : ∀ b, T b → S b) {ad : Addr} {k : Nat} {v : Value} (h : w.cell? (ad.add k) = some v ∧ ¬ S ad.block) :
  w'.cell? (ad.add k) = some v ∧ ¬ S' ad.block := by
 have hlt := cell_lt h.1
 rw [add_block] at hlt
 refine ⟨(cell_congr ?_).trans h.1, fun hs => (hS _ hs).elim h.2 (fun hh => by omega)⟩
 rw [add_block]
 exact hw.block _ hlt (fun ht => h.2 (hT _ ht))
mutual
theorem Rel.frameA {φ : List (Option Loc)} {a : A} {v : Value} {f : List Nat} (hw : Fr T w w') (hS : ∀ b, S' b → S b ∨ w.heap.size ≤ b) (hT : ∀ b, T b → S b) :
  Rel w S φ a v f → (∀ g ∈ f, ¬ T g) → ∀ φ', Ext φ φ' → Rel w' S' φ' a v f
 | .any v, _, _, _ => .any v
 | .int k n, _, _, _ => .int k n
 | .bool b, _, _, _ => .bool b
 | .str s, _, _, _ => .str s
 | .nils, _, _, _ => .nils
 | .nilp, _, _, _ => .nilp
 | .ro hu hr hc hl, _, _, _ => .ro hu (RelL.frameA hw hS hT hr (by simp) [] (Ext.refl _)) (fun k v hv => keep_cell hw hS hT (hc k v hv)) hl
 | .ro0 sz a cap, _, _, _ => .ro0 sz a cap
 | .own hh hz hu hr hc hl, hf, φ', hφ => .own ((hw.block _ (heap_lt hh) (hf _ (by simp))).trans hh) hz hu (RelL.frameA hw hS hT hr (fun g hg => hf g (by simp [hg])) φ' hφ) hc hl
 | .own0 sz a, _, _, _ => .own0 sz a
 | .box hh hz hl hc hr, hf, φ', hφ => .box ((hw.block _ (heap_lt hh) (hf _ (by simp))).trans hh) hz hl hc (RelL.frameA hw hS hT hr (fun g hg => hf g (by simp [hg])) φ' hφ)
 | .agg hr, hf, φ', hφ => .agg (RelL.frameA hw hS hT hr hf φ' hφ)
 | .tup hr, hf, φ', hφ => .tup (RelL.frameA hw hS hT hr hf φ' hφ)
 | .fn hr, hf, φ', hφ => .fn (RelL.frameA hw hS hT hr hf φ' hφ)
 | .sl hm hlo hl ha, _, _, hφ => .sl (hφ _ _ hm) hlo hl ha
 | .ptr hm, _, _, hφ => .ptr (hφ _ _ hm)
 | .rp hu hr hc, _, _, _ => .rp hu (RelL.frameA hw hS hT hr (by simp) [] (Ext.refl _)) (fun k v hv => keep_cell hw hS hT (hc k v hv))
theorem RelL.frameA {φ : List (Option Loc)} {as : List A} {vs : List Value} {f : List Nat} (hw : Fr T w w') (hS : ∀ b, S' b → S b ∨ w.heap.size ≤ b) (hT : ∀ b, T b → S b) :
  RelL w S φ as vs f → (∀ g ∈ f, ¬ T g) → ∀ φ', Ext φ φ' → RelL w' S' φ' as vs f
 | .nil, _, _, _ => .nil
 | .cons h hs, hf, φ', hφ => .cons (Rel.frameA hw hS hT h (fun g hg => hf g (by simp [hg])) φ' hφ) (RelL.frameA hw hS hT hs (fun g hg => hf g (by simp [hg])) φ' hφ)
end
theorem Rel.frame {a : A} {v : Value} {f : List Nat} (hw : Fr T w w') (hS : ∀ b, S' b → S b ∨ w.heap.size ≤ b) (hT : ∀ b, T b → S b) (hφ : Ext φ φ') (h : Rel w S φ a v f) (hf : ∀ g ∈ f, ¬ T g) : Rel w' S' φ' a v f := Rel.frameA hw hS hT h hf φ' hφ
theorem RelL.frame {as : List A} {vs : List Value} {f : List Nat} (hw : Fr T w w') (hS : ∀ b, S' b → S b ∨ w.heap.size ≤ b) (hT : ∀ b, T b → S b) (hφ : Ext φ φ') (h : RelL w S φ as vs f) (hf : ∀ g ∈ f, ¬ T g) : RelL w' S' φ' as vs f := RelL.frameA hw hS hT h hf φ' hφ
end frame
theorem Rel.up {w : World} {S : Nat → Prop} {φ : List (Option Loc)} {a : A} {v : Value} {f : List Nat} (h : Rel w S [] a v f) : Rel w S φ a v f :=
 h.frame (Fr.refl (fun _ => False) w) (fun _ h => .inl h) (fun _ h => h.elim) (fun m l h => by simp at h) (fun _ _ h => h)
theorem RelL.up {w : World} {S : Nat → Prop} {φ : List (Option Loc)} {as : List A} {vs : List Value} {f : List Nat} (h : RelL w S [] as vs f) : RelL w S φ as vs f :=
 h.frame (Fr.refl (fun _ => False) w) (fun _ h => .inl h) (fun _ h => h.elim) (fun m l h => by simp at h) (fun _ _ h => h)
section lists
variable {w : World} {S : Nat → Prop} {φ : List (Option Loc)}
theorem RelL.length {as : List A} {vs : List Value} {f : List Nat} (h : RelL w S φ as vs f) : as.length = vs.length := by
 induction as generalizing vs f with
 | nil => cases h; rfl
 | cons a as ih => cases h with | cons h hs => simp [ih hs]
theorem RelL.at_ {as : List A} {vs : List Value} {f : List Nat} (h : RelL w S φ as vs f) {k : Nat} {a : A} (hk : as[k]? = some a) :
  ∃ v f1 fa f2, vs[k]? = some v ∧ Rel w S φ a v fa ∧ f = f1 ++ (fa ++ f2) := by
 induction as generalizing vs f k with
 | nil => simp at hk
 | cons b as ih =>
  cases h with
  | cons h hs =>
   rename_i v fb vs fs
   cases k with
   | zero => simp at hk; subst hk; exact ⟨v, [], fb, fs, rfl, h, rfl⟩
   | succ k =>
    obtain ⟨u, f1, fa, f2, h1, h2, h3⟩ := ih hs (by simpa using hk)
    exact ⟨u, fb ++ f1, fa, f2, by simpa using h1, h2, by rw [h3]; simp⟩
theorem RelL.append {as bs : List A} {vs us : List Value} {f g : List Nat} (h : RelL w S φ as vs f) (k : RelL w S φ bs us g) : RelL w S φ (as ++ bs) (vs ++ us) (f ++ g) := by
 induction as generalizing vs f with
 | nil => cases h; simpa using k
 | cons a as ih => cases h with | cons h hs => rw [List.append_assoc]; exact .cons h (ih hs)
theorem RelL.split {as bs : List A} {vs : List Value} {f : List Nat} (h : RelL w S φ (as ++ bs) vs f) : ∃ us1 us2 f1 f2, vs = us1 ++ us2 ∧ f = f1 ++ f2 ∧ RelL w S φ as us1 f1 ∧ RelL w S φ bs us2 f2 := by
 induction as generalizing vs f with
 | nil => exact ⟨[], vs, [], f, rfl, rfl, .nil, h⟩
 | cons a as ih =>
  cases h with
  | cons h hs =>
   obtain ⟨us1, us2, f1, f2, h1, h2, h3, h4⟩ := ih hs
   exact ⟨_ :: us1, us2, _ ++ f1, f2, by rw [h1]; rfl, by rw [h2, List.append_assoc], .cons h h3, h4⟩
theorem RelL.take {as : List A} {vs : List Value} (h : RelL w S φ as vs []) (n : Nat) : RelL w S φ (as.take n) (vs.take n) [] := by
 induction as generalizing vs n with
 | nil => cases h; simpa using RelL.nil
 | cons a as ih =>
  generalize hf : ([] : List Nat) = f at h
  cases h with
  | cons h hs =>
   obtain ⟨e1, e2⟩ := List.append_eq_nil_iff.1 hf.symm
   subst e1 e2
   cases n with
   | zero => exact .nil
   | succ n => exact .cons (f := []) (fs := []) h (ih hs n)
theorem RelL.drop {as : List A} {vs : List Value} (h : RelL w S φ as vs []) (n : Nat) : RelL w S φ (as.drop n) (vs.drop n) [] := by
 induction as generalizing vs n with
 | nil => cases h; simpa using RelL.nil
 | cons a as ih =>
  generalize hf : ([] : List Nat) = f at h
  cases h with
  | cons h hs =>
   obtain ⟨e1, e2⟩ := List.append_eq_nil_iff.1 hf.symm
   subst e1 e2
   cases n with
   | zero => exact .cons (f := []) (fs := []) h hs
   | succ n => exact ih hs n
theorem RelL.none_at {as : List A} {vs : List Value} (h : RelL w S φ as vs []) {k : Nat} {a : A} (hk : as[k]? = some a) : ∃ v, vs[k]? = some v ∧ Rel w S φ a v [] := by
 obtain ⟨v, f1, fa, f2, h1, h2, h3⟩ := h.at_ hk
 have := List.append_eq_nil_iff.1 h3.symm
 have := List.append_eq_nil_iff.1 this.2
 rw [this.1] at h2
 exact ⟨v, h1, h2⟩
theorem flat_len {α : Type} {es : List (List α)} {sz : Nat} (hu : ∀ e ∈ es, e.length = sz) : es.flatten.length = es.length * sz := by
 induction es with
 | nil => simp
 | cons e es ih => simp [ih (fun x hx => hu x (by simp [hx])), hu e (by simp), Nat.add_mul]; omega
theorem flat_drop {α : Type} {es : List (List α)} {sz : Nat} (hu : ∀ e ∈ es, e.length = sz) (i : Nat) : es.flatten.drop (i * sz) = (es.drop i).flatten := by
 induction es generalizing i with
 | nil => simp
 | cons e es ih =>
  have he := hu e (by simp)
  cases i with
  | zero => simp
  | succ i =>
   rw [List.flatten_cons, List.drop_succ_cons, Nat.succ_mul, Nat.add_comm, ← List.drop_drop, ← he, List.drop_left, he]
   exact ih (fun x hx => hu x (by simp [hx])) i
theorem flat_take {α : Type} {es : List (List α)} {sz : Nat} (hu : ∀ e ∈ es, e.length = sz) (i : Nat) : es.flatten.take (i * sz) = (es.take i).flatten := by
 induction es generalizing i with
 | nil => simp
 | cons e es ih =>
  have he := hu e (by simp)
  cases i with
  | zero => simp
  | succ i =>
   rw [List.flatten_cons, List.take_succ_cons, List.flatten_cons, Nat.succ_mul, Nat.add_comm, ← he, List.take_length_add_append, he, ih (fun x hx => hu x (by simp [hx]))]
theorem flat_get {α : Type} {es : List (List α)} {sz i j : Nat} {e : List α} (hu : ∀ e ∈ es, e.length = sz) (hi : es[i]? = some e) (hj : j < sz) : es.flatten[i * sz + j]? = e[j]? := by
 have h := flat_drop hu i
 have h2 : es.flatten[i * sz + j]? = (es.drop i).flatten[j]? := by rw [← h, List.getElem?_drop]
 obtain ⟨hlt, he⟩ := List.getElem?_eq_some_iff.1 hi
 rw [h2, List.drop_eq_getElem_cons hlt, List.flatten_cons, List.getElem?_append_left (by rw [hu _ (List.getElem_mem hlt)]; exact hj), he]
theorem uni_take {α : Type} {es : List (List α)} {sz : Nat} (hu : ∀ e ∈ es, e.length = sz) (i : Nat) : ∀ e ∈ es.take i, e.length = sz := fun e he => hu e (List.mem_of_mem_take he)
theorem uni_drop {α : Type} {es : List (List α)} {sz : Nat} (hu : ∀ e ∈ es, e.length = sz) (i : Nat) : ∀ e ∈ es.drop i, e.length = sz := fun e he => hu e (List.mem_of_mem_drop he)
end lists
mutual
/-- The same, read alone. What leads into the abstract heap is forgotten. -/
def ro : A → A
 | .row _ sz es => .row false sz (roLL es)
 | .box cs => .rp cs.length [roL cs] 0 0
 | .agg cs => .agg (roL cs)
 | .tup cs => .tup (roL cs)
 | .fn f cs => .fn f (roL cs)
 | .rp sz es i j => .rp sz (roLL es) i j
 | .sl .. => .any
 | .ptr .. => .any
 | .any => .any
 | .int k n => .int k n
 | .bool b => .bool b
 | .str s => .str s
 | .nils => .nils
 | .nilp => .nilp
def roL : List A → List A
 | [] => []
 | a :: as => ro a :: roL as
def roLL : List (List A) → List (List A)
 | [] => []
 | e :: es => roL e :: roLL es
end
theorem roL_map (as : List A) : roL as = as.map ro := by
 induction as with
 | nil => rfl
 | cons a as ih => simp [roL, ih]
theorem roLL_map (es : List (List A)) : roLL es = es.map roL := by
 induction es with
 | nil => rfl
 | cons a as ih => simp [roLL, ih]
theorem roLL_flatten (es : List (List A)) : (roLL es).flatten = roL es.flatten := by
 induction es with
 | nil => rfl
 | cons e es ih => simp [roLL, ih, roL_map]
section ro
variable {w : World} {S S' : Nat → Prop}
mutual
theorem Rel.ro_of {φ φ' : List (Option Loc)} {a : A} {v : Value} {f : List Nat} (hS : ∀ b, S' b → S b) (h : Rel w S φ a v f) (hf : ∀ b ∈ f, ¬ S' b) : Rel w S' φ' (ro a) v [] :=
 match h with
 | .any v => .any v
 | .int k n => .int k n
 | .bool b => .bool b
 | .str s => .str s
 | .nils => .nils
 | .nilp => .nilp
 | .ro (es := es) hu hr hc hl => by
  have h1 : (roLL es).length = es.length := by rw [roLL_map]; simp
  rw [← h1] at hl ⊢
  exact .ro (by rw [roLL_map]; intro e he; obtain ⟨x, hx, rfl⟩ := List.mem_map.1 he; rw [roL_map, List.length_map]; exact hu x hx) (by rw [roLL_flatten]; exact RelL.ro_of hS hr (by simp)) (fun k v hv => ⟨(hc k v hv).1, fun hs => (hc k v hv).2 (hS _ hs)⟩) hl
 | .ro0 sz a cap => .ro0 sz a cap
 | .own (es := es) (off := off) hh hz hu hr hc hl => by
  have h1 : (roLL es).length = es.length := by rw [roLL_map]; simp
  rw [← h1] at hl ⊢
  exact .ro (by rw [roLL_map]; intro e he; obtain ⟨x, hx, rfl⟩ := List.mem_map.1 he; rw [roL_map, List.length_map]; exact hu x hx) (by rw [roLL_flatten]; exact RelL.ro_of hS hr (fun b hb => hf b (by simp [hb])))
   (fun k v hv => ⟨by rw [add_mk]; simp only [World.cell?, hh]; simpa using hc k v hv, hf _ (by simp)⟩) hl
 | .own0 sz a => .ro0 sz a 0
 | .box (cs := cs) (g := g) (off := off) hh hz hl hc hr => by
  have := Rel.rp (w := w) (S := S') (φ := φ') (es := [roL cs]) (ad := ⟨g, off, none⟩) (sz := cs.length) (i := 0) (j := 0) (by simp [roL_map]) (by simpa using RelL.ro_of hS hr (fun b hb => hf b (by simp [hb])))
   (fun k v hk => ⟨by rw [add_mk]; simp only [World.cell?, hh]; simpa using hc k v hk, hf _ (by simp)⟩)
  rw [add_mk] at this
  simpa [ro] using this
 | .agg hr => .agg (RelL.ro_of hS hr hf)
 | .tup hr => .tup (RelL.ro_of hS hr hf)
 | .fn hr => .fn (RelL.ro_of hS hr hf)
 | .sl .. => .any _
 | .ptr .. => .any _
 | .rp (es := es) hu hr hc => .rp (by rw [roLL_map]; intro e he; obtain ⟨x, hx, rfl⟩ := List.mem_map.1 he; rw [roL_map, List.length_map]; exact hu x hx) (by rw [roLL_flatten]; exact RelL.ro_of hS hr (by simp)) (fun k v hv => ⟨(hc k v hv).1, fun hs => (hc k v hv).2 (hS _ hs)⟩)
theorem RelL.ro_of {φ φ' : List (Option Loc)} {as : List A} {vs : List Value} {f : List Nat} (hS : ∀ b, S' b → S b) (h : RelL w S φ as vs f) (hf : ∀ b ∈ f, ¬ S' b) : RelL w S' φ' (roL as) vs [] :=
 match h with
 | .nil => .nil
 | .cons h hs => .cons (f := []) (fs := []) (Rel.ro_of hS h (fun g hg => hf g (by simp [hg]))) (RelL.ro_of hS hs (fun g hg => hf g (by simp [hg])))
end
end ro
def BRel (w : World) (S : Nat → Prop) (φ : List (Option Loc)) (b : Option Blk) (l : Option Loc) (f : List Nat) : Prop :=
 match b, l with
 | none, _ => f = []
 | some _, none => False
 | some (sz, es), some l => l.sz = sz ∧ ((l.cap = 0 ∧ es = [] ∧ f = []) ∨
  ∃ (arr : Array Value) (ty : TypeId) (vs : List Value) (f0 : List Nat), f = l.g :: f0 ∧ w.heap[l.g]? = some (.cells arr ty (0, 0)) ∧ arr.size = l.off + l.cap * sz ∧ (∀ e ∈ es, e.length = sz) ∧
   RelL w S φ es.flatten vs f0 ∧ (∀ (k : Nat) (v : Value), vs[k]? = some v → arr[l.off + k]? = some v) ∧ es.length ≤ l.cap)
inductive HRel (w : World) (S : Nat → Prop) (φ : List (Option Loc)) : Heap → List (Option Loc) → List Nat → Prop
 | nil : HRel w S φ [] [] []
 | cons {b : Option Blk} {l : Option Loc} {f : List Nat} {bs : Heap} {ls : List (Option Loc)} {fs : List Nat} (h : BRel w S φ b l f) (hs : HRel w S φ bs ls fs) : HRel w S φ (b :: bs) (l :: ls) (f ++ fs)
theorem BRel.frame {w w' : World} {S S' T : Nat → Prop} {φ φ' : List (Option Loc)} {b : Option Blk} {l : Option Loc} {f : List Nat} (hw : Fr T w w') (hS : ∀ b, S' b → S b ∨ w.heap.size ≤ b) (hT : ∀ b, T b → S b)
    (hφ : Ext φ φ') (h : BRel w S φ b l f) (hf : ∀ g ∈ f, ¬ T g) : BRel w' S' φ' b l f := by
  cases b with
  | none => exact h
  | some es =>
   cases l with
   | none => exact h.elim
   | some l =>
    obtain ⟨hz, h⟩ := h
    refine ⟨hz, ?_⟩
    rcases h with h | ⟨arr, ty, vs, f0, rfl, h1, h2, h3, h4, h5, h6⟩
    · exact .inl h
    · exact .inr ⟨arr, ty, vs, f0, rfl, (hw.block _ (heap_lt h1) (hf _ (by simp))).trans h1, h2, h3, h4.frame hw hS hT hφ (fun g hg => hf g (by simp [hg])), h5, h6⟩
theorem HRel.frame {w w' : World} {S S' T : Nat → Prop} {φ φ' : List (Option Loc)} {h : Heap} {ls : List (Option Loc)} {f : List Nat} (hw : Fr T w w') (hS : ∀ b, S' b → S b ∨ w.heap.size ≤ b) (hT : ∀ b, T b → S b)
  (hφ : Ext φ φ') (H : HRel w S φ h ls f) (hf : ∀ g ∈ f, ¬ T g) : HRel w' S' φ' h ls f := by
 induction H with
 | nil => exact .nil
 | cons h hs ih => exact .cons (h.frame hw hS hT hφ (fun g hg => hf g (by simp [hg]))) (ih (fun g hg => hf g (by simp [hg])))
theorem HRel.length {w : World} {S : Nat → Prop} {φ : List (Option Loc)} {h : Heap} {ls : List (Option Loc)} {f : List Nat} (H : HRel w S φ h ls f) : ls.length = h.length := by
 induction H with
 | nil => rfl
 | cons h hs ih => simp [ih]
mutual
theorem Rel.lt {w : World} {S : Nat → Prop} {φ : List (Option Loc)} {a : A} {v : Value} {f : List Nat} (h : Rel w S φ a v f) (b : Nat) (hb : b ∈ f) : b < w.heap.size :=
 match h with
 | .own hh hz hu hr hc hl => by
  rcases List.mem_cons.1 hb with rfl | hb
  ·exact heap_lt hh
  ·exact RelL.lt hr b hb
 | .box hh hz hl hc hr => by
  rcases List.mem_cons.1 hb with rfl | hb
  ·exact heap_lt hh
  ·exact RelL.lt hr b hb
 | .agg hr => RelL.lt hr b hb
 | .tup hr => RelL.lt hr b hb
 | .any _ => absurd hb (by simp)
 | .int _ _ => absurd hb (by simp)
 | .bool _ => absurd hb (by simp)
 | .str _ => absurd hb (by simp)
 | .nils => absurd hb (by simp)
 | .nilp => absurd hb (by simp)
 | .ro .. => absurd hb (by simp)
 | .ro0 .. => absurd hb (by simp)
 | .own0 .. => absurd hb (by simp)
 | .fn .. => absurd hb (by simp)
 | .sl .. => absurd hb (by simp)
 | .ptr .. => absurd hb (by simp)
 | .rp .. => absurd hb (by simp)
theorem RelL.lt {w : World} {S : Nat → Prop} {φ : List (Option Loc)} {as : List A} {vs : List Value} {f : List Nat} (h : RelL w S φ as vs f) (b : Nat) (hb : b ∈ f) : b < w.heap.size :=
 match h with
 | .nil => absurd hb (by simp)
 | .cons h hs => (List.mem_append.1 hb).elim (Rel.lt h b) (RelL.lt hs b)
end
theorem BRel.lt {w : World} {S : Nat → Prop} {φ : List (Option Loc)} {b : Option Blk} {l : Option Loc} {f : List Nat} (h : BRel w S φ b l f) (g : Nat) (hg : g ∈ f) : g < w.heap.size := by
  cases b with
  | none => simp only [BRel] at h; subst h; simp at hg
  | some es =>
   cases l with
   | none => exact h.elim
   | some l =>
    obtain ⟨_, h | ⟨arr, ty, vs, f0, rfl, h1, h2, h3, h4, h5, h6⟩⟩ := h
    · rw [h.2.2] at hg; simp at hg
    · rcases List.mem_cons.1 hg with rfl | hg
      · exact heap_lt h1
      · exact h4.lt g hg
theorem HRel.lt {w : World} {S : Nat → Prop} {φ : List (Option Loc)} {h : Heap} {ls : List (Option Loc)} {f : List Nat} (H : HRel w S φ h ls f) : ∀ b ∈ f, b < w.heap.size := by
 induction H with
 | nil => simp
 | cons h hs ih => intro b hb; exact (List.mem_append.1 hb).elim (h.lt b) (ih b)
theorem HRel.snoc {w : World} {S : Nat → Prop} {φ : List (Option Loc)} {h : Heap} {ls : List (Option Loc)} {f fb : List Nat} {b : Option Blk} {l : Option Loc} (H : HRel w S φ h ls f) (hb : BRel w S φ b l fb) : HRel w S φ (h ++ [b]) (ls ++ [l]) (f ++ fb) := by
 induction H with
 | nil => simpa using HRel.cons hb .nil
 | cons h hs ih => rw [List.append_assoc]; exact .cons h ih
theorem HRel.at_ {w : World} {S : Nat → Prop} {φ : List (Option Loc)} {h : Heap} {ls : List (Option Loc)} {f : List Nat} (H : HRel w S φ h ls f) {m : Nat} {b : Option Blk} (hm : h[m]? = some b) :
  ∃ l f1 fb f2, ls[m]? = some l ∧ BRel w S φ b l fb ∧ f = f1 ++ (fb ++ f2) ∧
   ∀ (w' : World) (S' T : Nat → Prop) (φ' : List (Option Loc)) (b' : Option Blk) (fb' : List Nat), Fr T w w' → (∀ b, S' b → S b ∨ w.heap.size ≤ b) → (∀ b, T b → S b) → Ext φ φ' →
    (∀ g ∈ f1, ¬ T g) → (∀ g ∈ f2, ¬ T g) → BRel w' S' φ' b' l fb' → HRel w' S' φ' (h.set m b') ls (f1 ++ (fb' ++ f2)) := by
 induction H generalizing m with
 | nil => simp at hm
 | cons h0 hs ih =>
  rename_i b0 l0 f0 bs ls0 fs0
  cases m with
  | zero =>
   simp at hm; subst hm
   refine ⟨l0, [], f0, fs0, rfl, h0, rfl, fun w' S' T φ' b' fb' hw hS hT hφ h1 h2 hb => ?_⟩
   rw [List.nil_append]; exact .cons hb (hs.frame hw hS hT hφ h2)
  | succ m =>
   obtain ⟨l, f1, fb, f2, e1, e2, e3, e4⟩ := ih (by simpa using hm)
   refine ⟨l, f0 ++ f1, fb, f2, by simpa using e1, e2, by rw [e3]; simp, fun w' S' T φ' b' fb' hw hS hT hφ h1 h2 hb => ?_⟩
   rw [List.append_assoc]
   exact .cons (h0.frame hw hS hT hφ (fun g hg => h1 g (by simp [hg]))) (e4 w' S' T φ' b' fb' hw hS hT hφ (fun g hg => h1 g (by simp [hg])) h2 hb)
structure St where
 env : List (Nat × A)
 heap : Heap
 n : Nat
def look : List (Nat × A) → Nat → A
 | [], _ => .any
 | (j, a) :: r, i => if Nat.beq i j then a else look r i
def St.put (st : St) (d : Nat) (a : A) : St := { st with env := (d, a) :: st.env }
def Sof (S0 : Nat → Prop) (fs : List Nat) : Nat → Prop := fun b => S0 b ∨ b ∈ fs
structure SRel (S0 : Nat → Prop) (st : St) (a : Act) (w : World) (φ : List (Option Loc)) (fs : List Nat) : Prop where
 defers : a.defers = []
 size : a.tmps.size = st.n
 env : ∀ i, Rel w (Sof S0 fs) φ (look st.env i) (a.tmps.getD i undef) []
 heap : HRel w (Sof S0 fs) φ st.heap φ fs
 nodup : fs.Nodup
 apart : ∀ b ∈ fs, ¬ S0 b
 low : ∀ b, S0 b → b < w.heap.size
end Go.Proofs.Ytimgfinlbhodhaa.Ab
namespace Go.Proofs.Ytimgfinlbhodhaa.Ab
open Go
set_option linter.unusedVariables false
set_option linter.unusedSimpArgs false
inductive TK where
 | int (k : IntKind)
 | bool
 | str
 | slice (e : Nat)
 | ptr (e : Nat)
 | struct (fs : List (Nat × Nat))   -- of each field: its place, its cells
 | other
 deriving DecidableEq
structure TI where
 kind : TK
 size : Nat
 bytes : Nat
 zero : List A
def simple : A → Value → Bool
 | .int k n, .int k' n' => decide (k = k') && decide (n = n')
 | .bool b, .bool b' => b == b'
 | .str s, .string s' => s.data.toList == s'.data.toList
 | .nils, .slice none 0 0 => true
 | .nilp, .pointer none => true
 | .any, _ => true
 | _, _ => false
def simples : List A → List Value → Bool
 | [], [] => true
 | a :: as, v :: vs => simple a v && simples as vs
 | _, _ => false
def TK.fits (P : Program) : TK → TypeDesc → Bool
 | .int k, .int k' => decide (k = k')
 | .bool, .bool => true
 | .str, .string => true
 | .slice e, .slice e' => e == e'
 | .ptr e, .pointer e' => e == e'
 | .struct fs, .struct fields => fields.toList.map (fun f => (f.offset, ((P.info? f.type).map (·.size)).getD 0)) == fs && fs.all (fun f => f.2 != 0)
 | .other, .struct _ => false
 | .other, .array _ _ => false
 | .other, _ => true
 | _, _ => false
def TI.fits (P : Program) (t : Nat) (i : TI) : Bool :=
 match P.underlying t, P.info? t with
 | some d, some inf => i.kind.fits P d && inf.size == i.size && inf.bytes == i.bytes && (i.zero.length == i.size && match inf.zero with | some z => simples i.zero z.cells.toList | none => false)
 | _, _ => false
abbrev Tab := Nat → Option TI
def Tab.ok (P : Program) (T : Tab) : Prop := ∀ t i, T t = some i → i.fits P t = true
def tabOf : List (Nat × TI) → Tab
 | [], _ => none
 | (u, i) :: r, t => if Nat.beq t u then some i else tabOf r t
theorem tabOf_ok {P : Program} {l : List (Nat × TI)} (h : l.all (fun x => x.2.fits P x.1) = true) : Tab.ok P (tabOf l) := by
 induction l with
 | nil => intro t i hi; simp [tabOf] at hi
 | cons x l ih =>
  obtain ⟨u, j⟩ := x
  simp only [List.all_cons, Bool.and_eq_true] at h
  intro t i hi
  unfold tabOf at hi
  split at hi
  ·rename_i e
   have := Nat.eq_of_beq_eq_true e
   subst this
   injection hi with hi
   subst hi
   exact h.1
  ·exact ih h.2 t i hi
section types
variable {P : Program} {t : Nat} {i : TI}
theorem fits_info (h : i.fits P t = true) : ∃ d inf z, P.underlying t = some d ∧ P.info? t = some inf ∧ i.kind.fits P d = true ∧ inf.size = i.size ∧ inf.bytes = i.bytes ∧ inf.zero = some z ∧ simples i.zero z.cells.toList = true ∧ i.zero.length = i.size := by
 unfold TI.fits at h
 split at h
 ·rename_i d inf h1 h2
  cases hz : inf.zero with
  | none => simp [hz] at h
  | some z =>
   simp only [hz, Bool.and_eq_true, beq_iff_eq] at h
   exact ⟨d, inf, z, h1, h2, h.1.1.1, h.1.1.2, h.1.2, hz, h.2.2, h.2.1⟩
 ·cases h
theorem run_sizeOf_fit (h : i.fits P t = true) (w : World) : (sizeOf t).run P w = .ok i.size w := by
 obtain ⟨d, inf, z, h1, h2, h3, h4, h5, h6, h7, h8⟩ := fits_info h
 simp [sizeOf, typeInfo, h2, h4]
theorem under_slice {e : Nat} (h : i.fits P t = true) (hk : i.kind = .slice e) : P.underlying t = some (.slice e) := by
 obtain ⟨d, inf, z, h1, h2, h3, h4, h5, h6, h7, h8⟩ := fits_info h
 rw [h1]
 rw [hk] at h3
 cases d <;> simp_all [TK.fits]
theorem under_int {k : IntKind} (h : i.fits P t = true) (hk : i.kind = .int k) : P.underlying t = some (.int k) := by
 obtain ⟨d, inf, z, h1, h2, h3, h4, h5, h6, h7, h8⟩ := fits_info h
 rw [h1]
 rw [hk] at h3
 cases d <;> simp_all [TK.fits]
def TK.agg : TK → Bool
 | .struct _ => true
 | _ => false
theorem run_isAgg_fit (h : i.fits P t = true) (w : World) : (isAgg t).run P w = .ok i.kind.agg w := by
 obtain ⟨d, inf, z, h1, h2, h3, h4, h5, h6, h7, h8⟩ := fits_info h
 unfold isAgg
 rw [Sem.run_bind, run_underlying h1 w]
 cases hk : i.kind <;> rw [hk] at h3 <;> cases d <;> simp_all [TK.fits, TK.agg]
theorem simples_rel {w : World} {S : Nat → Prop} {φ : List (Option Loc)} {as : List A} {vs : List Value} (h : simples as vs = true) : RelL w S φ as vs [] := by
 induction as generalizing vs with
 | nil => cases vs with | nil => exact .nil | cons v vs => simp [simples] at h
 | cons a as ih =>
  cases vs with
  | nil => simp [simples] at h
  | cons v vs =>
   simp only [simples, Bool.and_eq_true] at h
   refine .cons (f := []) (fs := []) ?_ (ih h.2)
   have h1 := h.1
   unfold simple at h1
   split at h1
   ·simp only [Bool.and_eq_true, decide_eq_true_eq] at h1; rw [h1.1, h1.2]; exact .int _ _
   ·simp only [beq_iff_eq] at h1; rw [h1]; exact .bool _
   ·simp only [beq_iff_eq] at h1
    rename_i s s'
    obtain rfl : s = s' := by cases s; cases s'; simp_all [Array.ext_iff]
    exact .str _
   ·exact .nils
   ·exact .nilp
   ·exact .any _
   ·cases h1
end types
def absV : Value → A
 | .int k n => .int k n
 | .bool b => .bool b
 | .string s => .str s
 | .slice none 0 0 => .nils
 | .pointer none => .nilp
 | _ => .any
def ev (env : List (Nat × A)) : Operand → A
 | .tmp t => look env t
 | .const v => absV v
 | .global _ => .any
 | .func f => .fn f []
def cellsOf : A → Option (List A)
 | .agg cs => some cs
 | .any => none
 | .tup _ => none
 | a => some [a]
def okc : A → Bool
 | .agg _ => false
 | .tup _ => false
 | .any => false
 | _ => true
section operands
variable {w : World} {S : Nat → Prop} {φ : List (Option Loc)}
theorem absV_rel (v : Value) : Rel w S φ (absV v) v [] := by
 unfold absV
 split
 ·exact .int _ _
 ·exact .bool _
 ·exact .str _
 ·exact .nils
 ·exact .nilp
 ·exact .any _
theorem ev_rel {S0 : Nat → Prop} {st : St} {a : Act} {fs : List Nat} (h : SRel S0 st a w φ fs) (x : Operand) : Rel w (Sof S0 fs) φ (ev st.env x) (a.eval x) [] := by
 cases x with
 | tmp t => exact h.env t
 | const v => exact absV_rel v
 | global g => exact .any _
 | func f => exact .fn .nil
theorem cells_rel {a : A} {v : Value} {f : List Nat} {cs : List A} (h : Rel w S φ a v f) (hc : cellsOf a = some cs) : RelL w S φ cs v.cells.toList f := by
 have one : ∀ {a v f}, Rel w S φ a v f → v.cells = #[v] → RelL w S φ [a] v.cells.toList f := fun h e => by
  rw [e]; simpa using RelL.cons h .nil
 cases h <;> simp only [cellsOf, Option.some.injEq, reduceCtorEq] at hc
 all_goals first
  | (subst hc; exact one (by constructor <;> assumption) rfl)
  | (subst hc; simpa [Value.cells] using ‹RelL _ _ _ _ _ _›)
theorem okc_one {a : A} {v : Value} {f : List Nat} (h : Rel w S φ a v f) (hc : okc a = true) : v.oneCell' = true := by
 cases h <;> simp_all [okc, Value.oneCell']
theorem okc_all {as : List A} {vs : List Value} {f : List Nat} (h : RelL w S φ as vs f) (hc : as.all okc = true) : ∀ v ∈ vs, v.oneCell' = true := by
 induction as generalizing vs f with
 | nil => cases h; simp
 | cons a as ih =>
  cases h with
  | cons h hs =>
   simp only [List.all_cons, Bool.and_eq_true] at hc
   intro v hv
   rcases List.mem_cons.1 hv with rfl | hv
   ·exact okc_one h hc.1
   ·exact ih hs hc.2 v hv
end operands
theorem SRel.put {S0 : Nat → Prop} {st : St} {a : Act} {w : World} {φ : List (Option Loc)} {fs : List Nat} (h : SRel S0 st a w φ fs) {x : A} {v : Value} (hv : Rel w (Sof S0 fs) φ x v []) {d : Nat} (hd : d < st.n) :
  SRel S0 (st.put d x) (a.put (some d) v) w φ fs where
 defers := by simpa [Act.put] using h.defers
 size := by simpa [Act.put, St.put] using h.size
 env := fun i => by
  have hs := h.size
  by_cases hi : i = d
  ·subst hi
   have : (a.put (some i) v).tmps.getD i undef = v := by simp [Act.put, Array.getD, hs, hd]
   rw [this]
   simpa [St.put, look] using hv
  ·have : (a.put (some d) v).tmps.getD i undef = a.tmps.getD i undef := by
    simp only [Act.put, Array.getD_eq_getD_getElem?]
    rw [Array.getElem?_setIfInBounds_ne (fun e => hi e.symm)]
   rw [this]
   have hb : Nat.beq i d = false := by cases hb : Nat.beq i d; rfl; exact absurd (Nat.eq_of_beq_eq_true hb) hi
   simpa [St.put, look, hb] using h.env i
 heap := h.heap
 nodup := h.nodup
 apart := h.apart
 low := h.low
theorem SRel.env_frame {S0 : Nat → Prop} {st : St} {a : Act} {w w' : World} {φ φ' : List (Option Loc)} {fs fs' : List Nat} {T : Nat → Prop} (h : SRel S0 st a w φ fs) (hw : Fr T w w') (hT : ∀ b, T b → b ∈ fs)
  (hs : ∀ b, b ∈ fs' → b ∈ fs ∨ w.heap.size ≤ b) (hφ : Ext φ φ') : ∀ i, Rel w' (Sof S0 fs') φ' (look st.env i) (a.tmps.getD i undef) [] :=
 fun i => (h.env i).frame hw (fun b hb => hb.elim (fun h0 => .inl (.inl h0)) (fun hb => (hs b hb).elim (fun h1 => .inl (.inr h1)) .inr)) (fun b hb => .inr (hT b hb)) hφ (by simp)
end Go.Proofs.Ytimgfinlbhodhaa.Ab
namespace Go.Proofs.Ytimgfinlbhodhaa.Ab
open Go
set_option linter.unusedVariables false
set_option linter.unusedSimpArgs false
def aint (op : BinOp) (k : IntKind) (a b : Int) : Option A :=
 match op with
 | .add => some (.int k (k.wrap (a + b)))
 | .sub => some (.int k (k.wrap (a - b)))
 | .mul => some (.int k (k.wrap (a * b)))
 | .quo => if b = 0 then none else some (.int k (k.wrap (a.tdiv b)))
 | .rem => if b = 0 then none else some (.int k (a.tmod b))
 | .and => some (.int k (k.wrap (BitVec.ofInt k.bits a &&& BitVec.ofInt k.bits b).toNat))
 | .xor => some (.int k (k.wrap (BitVec.ofInt k.bits a ^^^ BitVec.ofInt k.bits b).toNat))
 | .eql => some (.bool (a == b))
 | .neq => some (.bool (a != b))
 | .lss => some (.bool (decide (a < b)))
 | .leq => some (.bool (decide (a ≤ b)))
 | .gtr => some (.bool (decide (a > b)))
 | .geq => some (.bool (decide (a ≥ b)))
 | _ => none
def ashift (op : BinOp) (k : IntKind) (a b : Int) : Option A :=
 if b < 0 then none else
 match op with
 | .shl => some (.int k (k.wrap (a * 2 ^ (min b.toNat k.bits))))
 | .shr => some (.int k (a.fdiv (2 ^ (min b.toNat k.bits))))
 | _ => none
def abin (T : Tab) (op : BinOp) (t : Nat) (x y : A) : Option A :=
 match x, y with
 | .int k a, .int k' b => if op = .shl ∨ op = .shr then ashift op k a b else if k = k' then aint op k a b else none
 | .bool a, .bool b => match (T t).map TI.kind, op with
  | some TK.bool, .eql => some (.bool (a == b))
  | some TK.bool, .neq => some (.bool (!(a == b)))
  | _, _ => none
 | .str a, .str b => match op with
  | .eql => some (.bool (a.toList == b.toList))
  | .neq => some (.bool (!(a.toList == b.toList)))
  | _ => none
 | _, _ => none
section
variable {P : Program} {w : World} {S : Nat → Prop} {φ : List (Option Loc)}
theorem under_bool {t : Nat} {i : TI} (h : i.fits P t = true) (hk : i.kind = .bool) : P.underlying t = some .bool := by
 obtain ⟨d, inf, z, h1, h2, h3, h4, h5, h6, h7, h8⟩ := fits_info h
 rw [h1]
 rw [hk] at h3
 cases d <;> simp_all [TK.fits]
theorem aint_run {op : BinOp} {k : IntKind} {a b : Int} {x : A} (t : TypeId) (h : aint op k a b = some x) (hs : ¬ (op = .shl ∨ op = .shr)) :
  ∃ v, (∀ w, (binOp op t (.int k a) (.int k b)).run P w = .ok v w) ∧ Rel w S φ x v [] := by
 cases op <;> simp only [aint, Option.some.injEq, reduceCtorEq] at h
 all_goals first
  | (subst h; exact ⟨.int _ _, fun w => by simp [binOp, Op.intArith, Op.intBits], .int _ _⟩)
  | (subst h; exact ⟨.bool _, fun w => by simp [binOp, Op.intCmp], .bool _⟩)
  | skip
 ·split at h
  ·cases h
  ·injection h with h; subst h; rename_i hb; exact ⟨.int _ _, fun w => by simp [binOp, Op.intDiv, hb], .int _ _⟩
 ·split at h
  ·cases h
  ·injection h with h; subst h; rename_i hb; exact ⟨.int _ _, fun w => by simp [binOp, Op.intDiv, hb], .int _ _⟩
theorem abin_run {T : Tab} (hT : T.ok P) {op : BinOp} {x y z : A} {u v : Value} (t : TypeId) (h : abin T op t x y = some z) (hx : Rel w S φ x u []) (hy : Rel w S φ y v []) :
  ∃ r, (∀ X Y w, (do eqGuard op t X Y u v; binOp op t u v : Sem Value).run P w = .ok r w) ∧ Rel w S φ z r [] := by
 unfold abin at h
 split at h
 ·rename_i k a k' b
  cases hx; cases hy
  split at h
  ·rename_i hop
   unfold ashift at h
   split at h
   ·cases h
   ·rename_i hb
    rcases hop with rfl | rfl
    ·injection h with h; subst h; exact ⟨.int _ _, fun X Y w => by simp [eqGuard_at_int, binOp, Op.shift, hb], .int _ _⟩
    ·injection h with h; subst h; exact ⟨.int _ _, fun X Y w => by simp [eqGuard_at_int, binOp, Op.shift, hb], .int _ _⟩
  ·rename_i hop
   split at h
   ·rename_i hk; subst hk
    obtain ⟨r, h1, h2⟩ := aint_run (P := P) (w := w) (S := S) (φ := φ) t h hop
    exact ⟨r, fun X Y w => by simp [eqGuard_at_int, h1], h2⟩
   ·cases h
 ·cases hx; cases hy
  have hb : ∀ {i : TI}, T t = some i → i.kind = .bool → ∀ (a b : Bool) w, (Op.equal t (.bool a) (.bool b)).run P w = .ok (a == b) w := fun hi hk a b w => by
   have hu := under_bool (hT _ _ hi) hk
   show (Op.equalIn (9999 + 1) t (.bool a) (.bool b)).run P w = _
   unfold Op.equalIn
   simp [run_underlying hu]
  split at h
  ·rename_i hk
   obtain ⟨i, hi, hk⟩ := Option.map_eq_some_iff.1 hk
   injection h with h; subst h; exact ⟨.bool _, fun X Y w => by simp [eqGuard_at_bool, binOp, hb hi hk], .bool _⟩
  ·rename_i hk
   obtain ⟨i, hi, hk⟩ := Option.map_eq_some_iff.1 hk
   injection h with h; subst h; exact ⟨.bool _, fun X Y w => by simp [eqGuard_at_bool, binOp, hb hi hk], .bool _⟩
  ·cases h
 ·cases hx; cases hy
  split at h
  ·injection h with h; subst h; exact ⟨.bool _, fun X Y w => by simp [eqGuard_at_string, binOp, Op.stringOp], .bool _⟩
  ·injection h with h; subst h; exact ⟨.bool _, fun X Y w => by simp [eqGuard_at_string, binOp, Op.stringOp], .bool _⟩
  ·cases h
 ·cases h
end
def fillA (places : List (Nat × Nat)) : List A → List (Nat × A) → Option (List A)
 | cells, [] => some cells
 | cells, (i, x) :: rest =>
  match places[i]?, cellsOf x with
  | some (off, size), some cs => if cs.length = size ∧ off + size ≤ cells.length then fillA places (cells.take off ++ (cs ++ cells.drop (off + size))) rest else none
  | _, _ => none
theorem take_set_succ {α : Type} (L : List α) (i : Nat) (v : α) (h : i < L.length) : (L.set i v).take (i + 1) = L.take i ++ [v] := by
 apply List.ext_getElem?
 intro k
 by_cases h1 : k < i
 ·rw [List.getElem?_take_of_lt (by omega), List.getElem?_set_ne (by omega), List.getElem?_append_left (by simp only [List.length_take]; omega), List.getElem?_take_of_lt h1]
 ·by_cases h2 : k = i
  ·subst h2
   rw [List.getElem?_take_of_lt (by omega), List.getElem?_set_self h, List.getElem?_append_right (by simp only [List.length_take]; omega)]
   simp [show min k L.length = k by omega]
  ·rw [List.getElem?_eq_none (by simp only [List.length_take, List.length_set]; omega), List.getElem?_eq_none (by simp only [List.length_append, List.length_take, List.length_cons, List.length_nil]; omega)]
theorem drop_set_lt {α : Type} (L : List α) (i k : Nat) (v : α) (h : i < k) : (L.set i v).drop k = L.drop k := by
 apply List.ext_getElem?
 intro m
 rw [List.getElem?_drop, List.getElem?_drop, List.getElem?_set_ne (by omega)]
theorem foldl_set (l : List Value) : ∀ (off n : Nat) (cells : Array Value), off + n + l.length ≤ cells.size →
  ((l.zipIdx n).foldl (fun cs (x : Value × Nat) => cs.setIfInBounds (off + x.2) x.1) cells).toList = cells.toList.take (off + n) ++ (l ++ cells.toList.drop (off + n + l.length)) := by
 induction l with
 | nil => intro off n cells h; simp
 | cons v l ih =>
  intro off n cells h
  simp only [List.length_cons] at h
  rw [List.zipIdx_cons, List.foldl_cons, ih off (n + 1) _ (by simp; omega)]
  simp only [Array.toList_setIfInBounds, List.length_cons]
  rw [show off + (n + 1) = off + n + 1 by omega, take_set_succ _ _ _ (by simp; omega), drop_set_lt _ _ _ _ (by omega)]
  simp [show off + n + 1 + l.length = off + n + (l.length + 1) by omega]
section
variable {w : World} {S : Nat → Prop} {φ : List (Option Loc)}
theorem fillA_rel {env : List (Nat × A)} {a : Act} (he : ∀ x, Rel w S φ (ev env x) (a.eval x) []) {places : List (Nat × Nat)} {ps : List (Nat × Operand)} {cells out : List A} {vcells : Array Value}
    (hc : RelL w S φ cells vcells.toList []) (h : fillA places cells (ps.map fun p => (p.1, ev env p.2)) = some out) :
    ∃ vout, Instr.fill (places[·]?) vcells (ps.map fun p => (p.1, a.eval p.2)) = some vout ∧ RelL w S φ out vout.toList [] := by
  induction ps generalizing cells vcells with
  | nil => simp [fillA] at h; subst h; exact ⟨vcells, rfl, hc⟩
  | cons p ps ih =>
    obtain ⟨i, x⟩ := p
    have hx := he x
    generalize hv : a.eval x = v at hx
    simp only [List.map_cons, fillA] at h
    simp only [List.map_cons, hv]
    split at h
    · rename_i off size cs h1 h2
      split at h
      · rename_i h3
        have hcs := cells_rel hx h2
        have hl := hcs.length
        have hl2 := hc.length
        have hvs : v.cells.size = size := by rw [← h3.1, hl]; simp
        have hsz : ¬ (off + v.cells.size > vcells.size) := by rw [hvs]; have : vcells.size = cells.length := by simp [hl2]
                                                              omega
        have hset : (v.cells.zipIdx.foldl (fun cs (x : Value × Nat) => cs.setIfInBounds (off + x.2) x.1) vcells).toList = vcells.toList.take off ++ (v.cells.toList ++ vcells.toList.drop (off + size)) := by
          have := foldl_set v.cells.toList off 0 vcells (by simp; omega)
          simp only [Nat.add_zero, Array.length_toList, hvs] at this
          rw [← this, ← Array.foldl_toList]
          simp
        obtain ⟨vout, h5, h6⟩ := ih (cells := cells.take off ++ (cs ++ cells.drop (off + size))) (vcells := v.cells.zipIdx.foldl (fun cs (x : Value × Nat) => cs.setIfInBounds (off + x.2) x.1) vcells)
          (by rw [hset]; exact (hc.take off).append (f := []) (g := []) (hcs.append (f := []) (g := []) (hc.drop _))) h
        refine ⟨vout, ?_, h6⟩
        simp only [Instr.fill, h1]
        rw [if_neg (by simp [hvs]; omega)]
        exact h5
      · cases h
    · cases h
end
end Go.Proofs.Ytimgfinlbhodhaa.Ab
namespace Go.Proofs.Ytimgfinlbhodhaa.Ab
open Go
set_option linter.unusedVariables false
set_option linter.unusedSimpArgs false
def bsz (h : Heap) (m : Nat) : Option Nat :=
 match h[m]? with
 | some (some b) => some b.1
 | _ => none
def bes (h : Heap) (m : Nat) : List (List A) :=
 match h[m]? with
 | some (some b) => b.2
 | _ => []
def notOwn : A → Bool
 | .row true _ _ => false
 | .box _ => false
 | .agg _ => false
 | .tup _ => false
 | _ => true
def rdCells (es : List (List A)) (i j n : Nat) : Option (List A) :=
 match es[i]? with
 | some e => if ((e.drop j).take n).length = n ∧ n ≠ 0 then some ((e.drop j).take n) else none
 | none => none
def aload (agg : Bool) (cs : List A) : Option A :=
 if agg then some (.agg cs) else match cs with
  | [c] => some c
  | _ => none
def bhi (len : Nat) : Option A → Option Nat
 | none => some len
 | some (.int _ n) => if 0 ≤ n ∧ n ≤ len then some n.toNat else none
 | some _ => none
def blo (n : Nat) : Option A → Option (Nat × Nat)
 | none => some (0, n)
 | some (.int _ l) => if 0 ≤ l ∧ l ≤ (n : Int) then some (l.toNat, n) else none
 | some _ => none
def abnd (len : Nat) (lo hi : Option A) : Option (Nat × Nat) := (bhi len hi).bind fun n => blo n lo
def aslice (T : Tab) (h : Heap) (t : Nat) (x : A) (lo hi : Option A) : Option A :=
 match (T t).map TI.kind with
 | some (TK.slice e) =>
  match T e, x with
  | some i, .row false sz es => if sz = i.size then (abnd es.length lo hi).map fun b => .row false sz ((es.take b.2).drop b.1) else none
  | some i, .sl m b len => if bsz h m = some i.size then (abnd len lo hi).map fun c => .sl m (b + c.1) (c.2 - c.1) else none
  | _, _ => none
 | _ => none
def alen : A → Option A
 | .row _ _ es => some (.int .i64 es.length)
 | .sl _ _ len => some (.int .i64 len)
 | .nils => some (.int .i64 0)
 | .str s => some (.int .i64 s.size)
 | _ => none
def aval1 (T : Tab) (env : List (Nat × A)) (h : Heap) : Op → Option A
 | .move x => some (ev env x)
 | .assign x => some (ev env x)
 | .pick c a b => match ev env c with
  | .bool t => some (if t then ev env a else ev env b)
  | _ => none
 | .binOp op t x y _ => abin T op t (ev env x) (ev env y)
 | .unOp op _ x => match op, ev env x with
  | .not, .bool b => some (.bool (!b))
  | .neg, .int k n => some (.int k (k.wrap (0 - n)))
  | _, _ => none
 | .convert s d x => match ev env x, T s, (T d).map TI.kind with
  | .int k n, some _, some (TK.int k') => some (.int k' (k'.wrap n))
  | _, _, _ => none
 | .nilCheck x => match ev env x with
  | .ptr m i j => some (.ptr m i j)
  | .rp sz es i j => some (.rp sz es i j)
  | _ => none
 | .extract x i => match ev env x with
  | .tup vs => vs[i]?
  | _ => none
 | .fieldAddr s x f => match (T s).map TI.kind with
  | some (TK.struct fs) => match fs[f]?, ev env x with
   | some p, .ptr m i j => some (.ptr m i (j + p.1))
   | some p, .rp sz es i j => some (.rp sz es i (j + p.1))
   | _, _ => none
  | _ => none
 | .indexAddr t x ix => match (T t).map TI.kind with
  | some (TK.slice e) => match T e, ev env x, ev env ix with
   | some i, .row false sz es, .int _ n => if sz = i.size ∧ 0 ≤ n ∧ n < es.length then some (.rp sz es n.toNat 0) else none
   | some i, .sl m b len, .int _ n => if bsz h m = some i.size ∧ 0 ≤ n ∧ n < len then some (.ptr m (b + n.toNat) 0) else none
   | _, _, _ => none
  | _ => none
 | .slice t x lo hi mx => match mx with
  | none => aslice T h t (ev env x) (lo.map (ev env)) (hi.map (ev env))
  | some _ => none
 | .build t parts => match T t with
  | some i => match i.kind with
   | .struct fs => (fillA fs i.zero (parts.toList.map fun p => (p.1, ev env p.2))).map A.agg
   | _ => none
  | none => none
 | .makeFunc fn first caps => match fn with
  | .func f => if first.size = 0 then some (.fn f (caps.toList.map (ev env))) else none
  | _ => none
 | .load t p => match T t, ev env p with
  | some i, .rp _ es r j => (rdCells es r j i.size).bind (aload i.kind.agg)
  | some i, .ptr m r j => match rdCells (bes h m) r j i.size with
   | some cs => if cs.all notOwn then aload i.kind.agg cs else none
   | none => none
  | _, _ => none
 | .call c => match c.callee with
  | .builtin b => match b, c.args.toList, c.argTypes.toList with
   | .len, [x], [t] => match (T t).map TI.kind, ev env x with
    | some (TK.slice _), .str _ => none
    | some (TK.slice _), y => alen y
    | some TK.str, .str s => some (.int .i64 s.size)
    | _, _ => none
   | .min, [x, y], _ => match ev env x, ev env y with
    | .int k a, .int _ b => some (.int k (if b < a then b else a))
    | _, _ => none
   | .max, [x, y], _ => match ev env x, ev env y with
    | .int k a, .int _ b => some (.int k (if b > a then b else a))
    | _, _ => none
   | _, _, _ => none
  | _ => none
 | _ => none
section
variable {P : Program} {T : Tab} {S0 : Nat → Prop} {st : St} {a : Act} {w : World} {φ : List (Option Loc)} {fs : List Nat}
theorem bsz_loc (h : SRel S0 st a w φ fs) {m sz : Nat} (hb : bsz st.heap m = some sz) : ∃ l : Loc, φ[m]? = some (some l) ∧ l.sz = sz := by
 unfold bsz at hb
 split at hb
 ·rename_i b hm
  injection hb with hb
  obtain ⟨lo, f1, fb, f2, h1, h2, h3, h4⟩ := h.heap.at_ hm
  obtain ⟨sz', es⟩ := b
  cases lo with
  | none => exact h2.elim
  | some l => exact ⟨l, h1, h2.1.trans hb⟩
 ·cases hb
theorem row_form {S : Nat → Prop} {sz : Nat} {es : List (List A)} {v : Value} (h : Rel w S φ (.row false sz es) v []) :
  ∃ ad cap, v = .slice ad es.length cap ∧ es.length ≤ cap ∧ ∀ (i : Nat), i < es.length → ∃ x vs, ad = some x ∧ (∀ e ∈ es, e.length = sz) ∧ RelL w S [] es.flatten vs [] ∧ (∀ (k : Nat) (v : Value), vs[k]? = some v → w.cell? (x.add k) = some v ∧ ¬ S x.block) := by
 cases h with
 | ro hu hr hc hl => exact ⟨_, _, rfl, hl, fun i hi => ⟨_, _, rfl, hu, hr, hc⟩⟩
 | ro0 sz a cap => exact ⟨_, _, rfl, Nat.zero_le _, fun i hi => absurd hi (by simp)⟩
theorem slice_row {S : Nat → Prop} {sz : Nat} {es : List (List A)} {ad : Option Addr} {cap : Nat} (h : Rel w S φ (.row false sz es) (.slice ad es.length cap) []) (l n : Nat) (hl : l ≤ n) (hn : n ≤ es.length) :
  Rel w S φ (.row false sz ((es.take n).drop l)) (.slice (if cap = l then ad else ad.map (·.add (l * sz))) (n - l) (cap - l)) [] := by
 obtain ⟨ad', cap', hv, hcap, hf⟩ := row_form h
 injection hv with e1 e2 e3
 subst e1 e3
 have hlen : ((es.take n).drop l).length = n - l := by simp; omega
 by_cases hz : n - l = 0
 ·have : (es.take n).drop l = [] := List.eq_nil_of_length_eq_zero (by omega)
  rw [this, hz]
  exact .ro0 _ _ _
 ·obtain ⟨x, vs, rfl, hu, hr, hc⟩ := hf l (by omega)
  rw [if_neg (by omega), ← hlen]
  refine .ro (vs := (vs.take (n * sz)).drop (l * sz)) (uni_drop (uni_take hu n) l) ?_ ?_ (by omega)
  ·rw [← flat_drop (uni_take hu n), ← flat_take hu]
   exact (hr.take _).drop _
  ·intro k v hk
   rw [add_add, add_block]
   rw [List.getElem?_drop] at hk
   have hk2 : vs[l * sz + k]? = some v := by
    by_cases hlt : l * sz + k < n * sz
    ·rwa [List.getElem?_take_of_lt hlt] at hk
    ·rw [List.getElem?_eq_none (by simp; omega)] at hk; cases hk
   exact hc _ _ hk2
theorem slice_sl {S : Nat → Prop} {m b len c : Nat} {ad : Option Addr} {l0 : Loc} (hm : φ[m]? = some (some l0)) (h : Rel w S φ (.sl m b len) (.slice ad len c) []) (l n : Nat) (hl : l ≤ n) (hn : n ≤ len) :
  Rel w S φ (.sl m (b + l) (n - l)) (.slice (if c = l then ad else ad.map (·.add (l * l0.sz))) (n - l) (c - l)) [] := by
 cases h with
 | sl hm' hlo hlen ha =>
  rename_i l1
  have : l1 = l0 := by rw [hm] at hm'; injection hm' with e; injection e with e; exact e.symm
  subst this
  refine .sl hm (by omega) (by omega) ?_
  intro hp
  rw [if_neg (by omega), ha (by omega), Option.map_some, add_mk, Nat.add_mul]
  simp [Nat.add_assoc]
theorem aload_run {S : Nat → Prop} {t : Nat} {i : TI} (hi : i.fits P t = true) {cs : List A} {vs : List Value} {x : A} (hx : aload i.kind.agg cs = some x) (hr : RelL w S φ cs vs []) (hn : cs.length = i.size) {ad : Addr}
  (hc : ∀ (k : Nat) (v : Value), vs[k]? = some v → w.cell? (ad.add k) = some v) : ∃ v, (loadVar t ad).run P w = .ok v w ∧ Rel w S φ x v [] := by
 unfold aload at hx
 by_cases hg : i.kind.agg = true
 ·rw [if_pos hg] at hx
  injection hx with hx
  subst hx
  refine ⟨.agg vs.toArray, ?_, .agg hr⟩
  have hl := run_loadCells_list (P := P) w ad vs hc
  rw [← hr.length, hn] at hl
  simp [loadVar, Sem.run_bind, run_isAgg_fit hi, hg, run_sizeOf_fit hi, hl]
 ·rw [if_neg hg] at hx
  split at hx
  ·injection hx with hx
   subst hx
   obtain ⟨v, h1, h2⟩ := hr.none_at (k := 0) rfl
   refine ⟨v, ?_, h2⟩
   have := hc 0 v h1
   have h0 : ad.add 0 = ad := by simp [Addr.add]
   rw [h0] at this
   simp [loadVar, Sem.run_bind, run_isAgg_fit hi, hg, load, Sem.run, this]
  ·cases hx
theorem RelL.window {S : Nat → Prop} {as : List A} {vs : List Value} {f : List Nat} (h : RelL w S φ as vs f) (k n : Nat) :
  ∃ f1 f2 f3, f = f1 ++ (f2 ++ f3) ∧ RelL w S φ (as.take k) (vs.take k) f1 ∧ RelL w S φ ((as.drop k).take n) ((vs.drop k).take n) f2 ∧ RelL w S φ ((as.drop k).drop n) ((vs.drop k).drop n) f3 := by
 have h0 : RelL w S φ (as.take k ++ as.drop k) vs f := by rwa [List.take_append_drop]
 obtain ⟨u1, u2, f1, g, e1, e2, r1, r2⟩ := h0.split
 have h1 : RelL w S φ ((as.drop k).take n ++ (as.drop k).drop n) u2 g := by rwa [List.take_append_drop]
 obtain ⟨u3, u4, f2, f3, e3, e4, r3, r4⟩ := h1.split
 have l1 := r1.length
 have l3 := r3.length
 have hl := h.length
 have l2 := r2.length
 have c1 : vs.take k = u1 := by
  rw [e1]
  simp only [List.length_take] at l1
  by_cases hk : k ≤ as.length
  ·rw [List.take_append_of_le_length (by omega), List.take_of_length_le (by omega)]
  ·have : u2 = [] := List.eq_nil_of_length_eq_zero (by rw [← l2]; simp; omega)
   rw [this, List.append_nil, List.take_of_length_le (by omega)]
 have c2 : vs.drop k = u2 := by
  have := List.take_append_drop k vs
  rw [c1] at this
  rw [e1] at this
  have h2 := List.append_cancel_left this
  rw [← e1] at h2
  exact h2
 have c3 : u2.take n = u3 := by
  rw [e3]
  simp only [List.length_take] at l3
  by_cases hk : n ≤ (as.drop k).length
  ·rw [List.take_append_of_le_length (by omega), List.take_of_length_le (by omega)]
  ·have : u4 = [] := List.eq_nil_of_length_eq_zero (by rw [← r4.length]; simp at hk ⊢; omega)
   rw [this, List.append_nil, List.take_of_length_le (by omega)]
 have c4 : u2.drop n = u4 := by
  have := List.take_append_drop n u2
  rw [c3] at this
  rw [e3] at this
  have h2 := List.append_cancel_left this
  rw [← e3] at h2
  exact h2
 exact ⟨f1, f2, f3, by rw [e2, e4], by rw [c1]; exact r1, by rw [c2, c3]; exact r3, by rw [c2, c4]; exact r4⟩
theorem notOwn_nil {S : Nat → Prop} {as : List A} {vs : List Value} {f : List Nat} (h : RelL w S φ as vs f) (hn : as.all notOwn = true) : f = [] := by
 induction as generalizing vs f with
 | nil => cases h; rfl
 | cons a as ih =>
  cases h with
  | cons h hs =>
   simp only [List.all_cons, Bool.and_eq_true] at hn
   rw [ih hs hn.2, List.append_nil]
   have := hn.1
   cases h <;> simp_all [notOwn]
theorem flat_sub {α : Type} {es : List (List α)} {sz i j n : Nat} {e : List α} (hu : ∀ e ∈ es, e.length = sz) (hi : es[i]? = some e) (hj : j + n ≤ sz) : (es.flatten.drop (i * sz + j)).take n = (e.drop j).take n := by
 obtain ⟨hlt, he⟩ := List.getElem?_eq_some_iff.1 hi
 have hl : e.length = sz := hu _ (by rw [← he]; exact List.getElem_mem hlt)
 rw [← List.drop_drop, flat_drop hu, List.drop_eq_getElem_cons hlt, List.flatten_cons, he, List.drop_append_of_le_length (by omega), List.take_append_of_le_length (by simp; omega)]
theorem rd_ro {S : Nat → Prop} {sz : Nat} {es : List (List A)} {r j n : Nat} {p : Value} {cs : List A} (h : Rel w S φ (.rp sz es r j) p []) (hr : rdCells es r j n = some cs) :
  ∃ ad vs, p = .pointer (some ad) ∧ cs.length = n ∧ RelL w S φ cs vs [] ∧ (∀ (k : Nat) (v : Value), vs[k]? = some v → w.cell? (ad.add k) = some v) := by
 cases h with
 | rp hu hrl hc =>
  rename_i vs ad
  unfold rdCells at hr
  split at hr
  ·rename_i e he
   split at hr
   ·rename_i hl
    obtain ⟨hl, hn⟩ := hl
    injection hr with hr
    subst hr
    have hes : e.length = sz := hu _ (List.mem_of_getElem? he)
    have hjn : j + n ≤ sz := by simp at hl; omega
    obtain ⟨f1, f2, f3, e1, _, h2, _⟩ := hrl.window (r * sz + j) n
    have := List.append_eq_nil_iff.1 e1.symm
    have := List.append_eq_nil_iff.1 this.2
    rw [this.1, flat_sub hu he hjn] at h2
    refine ⟨_, _, rfl, hl, h2.up, fun k v hk => ?_⟩
    rw [add_add]
    have hk2 : vs[r * sz + j + k]? = some v := by
     by_cases hlt : k < n
     ·rwa [List.getElem?_take_of_lt hlt, List.getElem?_drop] at hk
     ·rw [List.getElem?_eq_none (by simp; omega)] at hk; cases hk
    exact (hc _ _ hk2).1
   ·cases hr
  ·cases hr
theorem rd_ptr (h : SRel S0 st a w φ fs) {m r j n : Nat} {p : Value} {cs : List A} (hp : Rel w (Sof S0 fs) φ (.ptr m r j) p []) (hr : rdCells (bes st.heap m) r j n = some cs) (ho : cs.all notOwn = true) :
  ∃ ad vs, p = .pointer (some ad) ∧ cs.length = n ∧ RelL w (Sof S0 fs) φ cs vs [] ∧ (∀ (k : Nat) (v : Value), vs[k]? = some v → w.cell? (ad.add k) = some v) := by
 cases hp with
 | ptr hm =>
  rename_i l
  unfold bes at hr
  split at hr
  ·rename_i b hb
   obtain ⟨lo, f1, fb, f2, h1, h2, h3, h4⟩ := h.heap.at_ hb
   rw [hm] at h1
   injection h1 with h1
   subst h1
   obtain ⟨sz, es⟩ := b
   obtain ⟨hz, h2⟩ := h2
   unfold rdCells at hr
   split at hr
   ·rename_i e he
    split at hr
    ·rename_i hl
     obtain ⟨hl, hn⟩ := hl
     injection hr with hr
     subst hr
     rcases h2 with h2 | ⟨arr, ty, vs, f0, rfl, q1, q2, hu, hrl, hc, q6⟩
     ·rw [h2.2.1] at he; simp at he
     ·have hes : e.length = sz := hu _ (List.mem_of_getElem? he)
      have hjn : j + n ≤ sz := by simp at hl; omega
      obtain ⟨g1, g2, g3, e1, _, r2, _⟩ := hrl.window (r * sz + j) n
      rw [flat_sub hu he hjn] at r2
      rw [notOwn_nil r2 ho] at r2
      refine ⟨_, _, rfl, hl, r2, fun k v hk => ?_⟩
      have hk2 : vs[r * sz + j + k]? = some v := by
       by_cases hlt : k < n
       ·rwa [List.getElem?_take_of_lt hlt, List.getElem?_drop] at hk
       ·rw [List.getElem?_eq_none (by simp; omega)] at hk; cases hk
      rw [add_mk, hz]
      simp only [World.cell?, q1]
      rw [← hc _ _ hk2]
      simp [Nat.add_assoc]
    ·cases hr
   ·cases hr
  ·unfold rdCells at hr; simp at hr
end
end Go.Proofs.Ytimgfinlbhodhaa.Ab
namespace Go.Proofs.Ytimgfinlbhodhaa.Ab
open Go
set_option linter.unusedVariables false
set_option linter.unusedSimpArgs false
section
variable {P : Program} {T : Tab} {S0 : Nat → Prop} {st : St} {a : Act} {w : World} {φ : List (Option Loc)} {fs : List Nat}
theorem kind_some {t : Nat} {k : TK} (hT : T.ok P) (h : (T t).map TI.kind = some k) : ∃ i : TI, T t = some i ∧ i.kind = k ∧ i.fits P t = true := by
 obtain ⟨i, h1, h2⟩ := Option.map_eq_some_iff.1 h
 exact ⟨i, h1, h2, hT _ _ h1⟩
theorem elem_of {t e : Nat} (h : P.underlying t = some (.slice e)) : P.elem t = e := by simp [Program.elem, h]
theorem sl_form {S : Nat → Prop} {m b len : Nat} {v : Value} (h : Rel w S φ (.sl m b len) v []) : ∃ ad c, v = .slice ad len c ∧ len ≤ c ∧ ∃ l : Loc, φ[m]? = some (some l) ∧ (0 < c → ad = some ⟨l.g, l.off + b * l.sz, none⟩) := by
 cases h with
 | sl hm hlo hl ha => exact ⟨_, _, rfl, hl, _, hm, ha⟩
theorem ev_int (h : SRel S0 st a w φ fs) {o : Operand} {k : IntKind} {n : Int} (he : ev st.env o = .int k n) : a.eval o = .int k n := by
 have := ev_rel h o
 rw [he] at this
 generalize a.eval o = v at this
 cases this
 rfl
theorem bnd_run (h : SRel S0 st a w φ fs) {len cap l n : Nat} {lo hi : Option Operand} (hb : abnd len (lo.map (ev st.env)) (hi.map (ev st.env)) = some (l, n)) (hc : len ≤ cap) :
  l ≤ n ∧ n ≤ len ∧ (Instr.sliceBounds true len cap (lo.map a.eval) (hi.map a.eval) none).run P w = .ok (l, n, cap) w := by
 unfold abnd at hb
 obtain ⟨n0, hb0, hm⟩ := Option.bind_eq_some_iff.1 hb
 clear hb
 have hhi : n0 ≤ len ∧ ((hi = none ∧ n0 = len) ∨ ∃ oh k m, hi = some oh ∧ a.eval oh = .int k m ∧ 0 ≤ m ∧ m ≤ (len : Int) ∧ n0 = m.toNat) := by
  cases hi with
  | none => simp only [Option.map_none, bhi, Option.some.injEq] at hb0; exact ⟨by omega, .inl ⟨rfl, hb0.symm⟩⟩
  | some oh =>
   simp only [Option.map_some] at hb0
   cases hh : ev st.env oh <;> rw [hh] at hb0 <;> simp only [bhi, reduceCtorEq] at hb0
   split at hb0
   ·injection hb0 with hb0
    rename_i k m hm'
    exact ⟨by omega, .inr ⟨oh, k, m, rfl, ev_int h hh, hm'.1, hm'.2, hb0.symm⟩⟩
   ·cases hb0
 have hlo : l ≤ n0 ∧ n = n0 ∧ ((lo = none ∧ l = 0) ∨ ∃ ol k m, lo = some ol ∧ a.eval ol = .int k m ∧ 0 ≤ m ∧ m ≤ (n0 : Int) ∧ l = m.toNat) := by
  cases lo with
  | none => simp only [Option.map_none, blo, Option.some.injEq, Prod.mk.injEq] at hm; exact ⟨by omega, hm.2.symm, .inl ⟨rfl, hm.1.symm⟩⟩
  | some ol =>
   simp only [Option.map_some] at hm
   cases hh : ev st.env ol <;> rw [hh] at hm <;> simp only [blo, reduceCtorEq] at hm
   split at hm
   ·injection hm with hm
    injection hm with e1 e2
    rename_i k m hm'
    exact ⟨by omega, e2.symm, .inr ⟨ol, k, m, rfl, ev_int h hh, hm'.1, hm'.2, e1.symm⟩⟩
   ·cases hm
 obtain ⟨g1, g2⟩ := hhi
 obtain ⟨g3, rfl, g4⟩ := hlo
 refine ⟨g3, g1, ?_⟩
 unfold Instr.sliceBounds
 rcases g2 with ⟨rfl, rfl⟩ | ⟨oh, k, m, rfl, e1, e2, e3, rfl⟩ <;> rcases g4 with ⟨rfl, rfl⟩ | ⟨ol, k', m', rfl, e4, e5, e6, rfl⟩
 ·simp
 ·simp [e4, run_sliceBound, e5, e6]
 ·simp [e1, run_sliceBound, e2, (by omega : m ≤ (cap : Int))]
 ·have hk : ((m.toNat : Nat) : Int) = m := Int.toNat_of_nonneg e2
  rw [hk] at e6
  simp [e1, e4, run_sliceBound, e2, e5, (by omega : m ≤ (cap : Int)), hk, e6]
theorem slice_run (hT : T.ok P) (h : SRel S0 st a w φ fs) {t : Nat} {x : A} {v : Value} {lo hi : Option Operand} {z : A} (hx : Rel w (Sof S0 fs) φ x v [])
  (hz : aslice T st.heap t x (lo.map (ev st.env)) (hi.map (ev st.env)) = some z) :
  ∃ r, (Instr.sliceAt t v (lo.map a.eval) (hi.map a.eval) none).run P w = .ok r w ∧ Rel w (Sof S0 fs) φ z r [] := by
 unfold aslice at hz
 split at hz
 ·rename_i e hk
  obtain ⟨it, h1, h2, hf⟩ := kind_some hT hk
  have hu := under_slice hf h2
  have hel := elem_of hu
  have hu' : P.underlying t = some (.slice (P.elem t)) := by rw [hel]; exact hu
  have run3 : ∀ (ad : Option Addr) (len cap l n : Nat) (i : TI), T e = some i → (Instr.sliceBounds true len cap (lo.map a.eval) (hi.map a.eval) none).run P w = .ok (l, n, cap) w →
    (Instr.sliceAt t (.slice ad len cap) (lo.map a.eval) (hi.map a.eval) none).run P w = .ok (.slice (if cap = l then ad else ad.map (·.add (l * i.size))) (n - l) (cap - l)) w := by
   intro ad len cap l n i hi' hb
   rw [run_sliceAt_slice (P := P) w t _ _ _ _ hu', run_slice_any (P := P) w t ad len cap hu', hb]
   simp only [Result.andThen]
   rw [hel, run_sizeOf_fit (hT _ _ hi') w]
   rfl
  split at hz
  ·rename_i i sz es hi'
   split at hz
   ·rename_i hs
    subst hs
    obtain ⟨⟨l, n⟩, hb, rfl⟩ := Option.map_eq_some_iff.1 hz
    obtain ⟨ad, cap, rfl, hcap, _⟩ := row_form hx
    obtain ⟨q1, q2, q3⟩ := bnd_run (P := P) h hb hcap
    exact ⟨_, run3 _ _ _ _ _ _ hi' q3, slice_row hx l n q1 q2⟩
   ·cases hz
  ·rename_i i m b len hi'
   split at hz
   ·rename_i hs
    obtain ⟨⟨l, n⟩, hb, rfl⟩ := Option.map_eq_some_iff.1 hz
    obtain ⟨ad, c, rfl, hc, _⟩ := sl_form hx
    obtain ⟨l0, hm, hsz⟩ := bsz_loc h hs
    obtain ⟨q1, q2, q3⟩ := bnd_run (P := P) h hb hc
    refine ⟨_, run3 _ _ _ _ _ _ hi' q3, ?_⟩
    rw [← hsz]
    exact slice_sl hm hx l n q1 q2
   ·cases hz
  ·cases hz
 ·cases hz
end
end Go.Proofs.Ytimgfinlbhodhaa.Ab
namespace Go.Proofs.Ytimgfinlbhodhaa.Ab
open Go
set_option linter.unusedVariables false
set_option linter.unusedSimpArgs false
section
variable {P : Program} {T : Tab} {S0 : Nat → Prop} {st : St} {a : Act} {w : World} {φ : List (Option Loc)} {fs : List Nat}
theorem under_struct {t : Nat} {i : TI} {fl : List (Nat × Nat)} (h : i.fits P t = true) (hk : i.kind = .struct fl) : ∃ fields : Array Field, P.underlying t = some (.struct fields) ∧ fields.toList.map (fun f => (f.offset, ((P.info? f.type).map (·.size)).getD 0)) = fl ∧ ∀ x ∈ fl, x.2 ≠ 0 := by
 obtain ⟨d, inf, z, h1, h2, h3, h4, h5, h6, h7, h8⟩ := fits_info h
 rw [hk] at h3
 cases d <;> simp only [TK.fits, Bool.false_eq_true] at h3
 rename_i fields
 simp only [Bool.and_eq_true, beq_iff_eq, List.all_eq_true, bne_iff_ne] at h3
 exact ⟨fields, h1, h3.1, h3.2⟩
theorem under_str {t : Nat} {i : TI} (h : i.fits P t = true) (hk : i.kind = .str) : P.underlying t = some .string := by
 obtain ⟨d, inf, z, h1, h2, h3, h4, h5, h6, h7, h8⟩ := fits_info h
 rw [h1]
 rw [hk] at h3
 cases d <;> simp_all [TK.fits]
theorem field_run {s f : Nat} {i : TI} {fl : List (Nat × Nat)} {p : Nat × Nat} (h : i.fits P s = true) (hk : i.kind = .struct fl) (hf : fl[f]? = some p) (ad : Addr) (w : World) :
  (Instr.fieldAt s (.pointer (some ad)) f).run P w = .ok (.pointer (some (ad.add p.1))) w := by
 obtain ⟨fields, hu, hm, hz⟩ := under_struct h hk
 have hp := hz p (List.mem_of_getElem? hf)
 rw [← hm, List.getElem?_map] at hf
 obtain ⟨fd, h1, h2⟩ := Option.map_eq_some_iff.1 hf
 have h1' : fields[f]? = some fd := by simpa using h1
 subst h2
 simp only at hp ⊢
 cases hi : P.info? fd.type with
 | none => rw [hi] at hp; simp at hp
 | some inf =>
  rw [hi] at hp
  simp only [Option.map_some, Option.getD_some] at hp
  simp [Instr.fieldAt, run_underlying hu, h1', Instr.sureAddr, fieldPlace, sizeOf, typeInfo, hi, hp]
theorem index_run {t e : Nat} {i j : TI} (h : i.fits P t = true) (hk : i.kind = .slice e) (hj : j.fits P e = true) (ad : Addr) (len cap : Nat) (k : IntKind) (n : Int) (h0 : 0 ≤ n) (h1 : n < (len : Int)) (w : World) :
  (Instr.indexAt t (.slice (some ad) len cap) (.int k n)).run P w = .ok (.pointer (some (ad.add (n.toNat * j.size)))) w := by
 have hu := under_slice h hk
 have hel := elem_of hu
 rw [run_indexAt_slice (P := P) w t ad len cap k n (by rw [hel]; exact hu)]
 simp only [h0, h1, and_self, if_true, hel, run_sizeOf_fit hj w, Result.andThen]
theorem built_fit {t : Nat} {i : TI} {fl : List (Nat × Nat)} {parts : List (Nat × Value)} {out : Array Value} (h : i.fits P t = true) (hk : i.kind = .struct fl)
  (hz : ∀ z : Value, (P.info? t).bind (·.zero) = some z → Instr.fill (fl[·]?) z.cells parts = some out) : P.built t parts = some out := by
 obtain ⟨fields, hu, hm, hnz⟩ := under_struct h hk
 obtain ⟨d, inf, z, h1, h2, h3, h4, h5, h6, h7, h8⟩ := fits_info h
 have hmm : fields.toList.mapM (fun f => (P.info? f.type).map fun i => (f.offset, i.size)) = some fl := by
  rw [← hm]
  have hall : ∀ f ∈ fields.toList, ((P.info? f.type).map (·.size)).getD 0 ≠ 0 := fun f hf => hnz (f.offset, _) (by rw [← hm]; exact List.mem_map.2 ⟨f, hf, rfl⟩)
  clear hm hnz hu
  generalize fields.toList = L at hall ⊢
  induction L with
  | nil => rfl
  | cons f l ih =>
   have hf := hall f (by simp)
   have ih' := ih (fun g hg => hall g (by simp [hg]))
   cases hi : P.info? f.type with
   | none => rw [hi] at hf; simp at hf
   | some inf => simp [List.mapM_cons, hi, ih']
 unfold Program.built
 rw [h2, hu]
 simp only [h6, hmm]
 have := hz z (by rw [h2]; exact h6)
 rw [← this]
 congr 1
 funext k
 simp
set_option maxHeartbeats 1000000 in
theorem aval1_run (hT : T.ok P) (h : SRel S0 st a w φ fs) {o : Oper} {x : A} (hv : aval1 T st.env st.heap o.op = some x) :
  ∃ v, (execOp a.eval o).run P w = .ok (.value v) w ∧ Rel w (Sof S0 fs) φ x v [] := by
 have lift : ∀ (s : Sem Value), (∃ v, s.run P w = .ok v w ∧ Rel w (Sof S0 fs) φ x v []) → ∃ v, ((do pure (.value (← s)) : Sem Next)).run P w = .ok (.value v) w ∧ Rel w (Sof S0 fs) φ x v [] := by
  rintro s ⟨v, h1, h2⟩
  exact ⟨v, by simp [h1], h2⟩
 unfold execOp
 cases hop : o.op <;> rw [hop] at hv <;> simp only [aval1, reduceCtorEq] at hv
 case move y => injection hv with hv; subst hv; exact ⟨_, rfl, ev_rel h y⟩
 case assign y => injection hv with hv; subst hv; exact ⟨_, rfl, ev_rel h y⟩
 case pick c y z =>
  split at hv
  ·rename_i t ht
   injection hv with hv
   subst hv
   have hc := ev_rel h c
   rw [ht] at hc
   generalize hcv : a.eval c = cv at hc
   cases hc
   refine ⟨if t then a.eval y else a.eval z, ?_, ?_⟩
   ·simp [hcv, asBool]
   ·cases t
    ·exact ev_rel h z
    ·exact ev_rel h y
  ·cases hv
 case binOp op t y z t2 =>
  obtain ⟨r, h1, h2⟩ := abin_run hT t hv (ev_rel h y) (ev_rel h z)
  exact lift _ ⟨r, h1 _ _ w, h2⟩
 case unOp op t y =>
  have hy := ev_rel h y
  refine lift _ ?_
  split at hv
  ·rename_i b hb
   injection hv with hv; subst hv
   rw [hb] at hy
   generalize a.eval y = yv at hy
   cases hy
   exact ⟨.bool _, by simp [Op.unary], .bool _⟩
  ·rename_i k n hb
   injection hv with hv; subst hv
   rw [hb] at hy
   generalize a.eval y = yv at hy
   cases hy
   exact ⟨.int _ _, by simp [Op.unary, Op.intArith], .int _ _⟩
  ·cases hv
 case convert s d y =>
  have hy := ev_rel h y
  refine lift _ ?_
  split at hv
  ·rename_i k n si k' hb hs hd
   injection hv with hv; subst hv
   rw [hb] at hy
   generalize a.eval y = yv at hy
   cases hy
   obtain ⟨di, hdi, hk, hf⟩ := kind_some hT hd
   have hu := under_int hf hk
   obtain ⟨d1, inf, z, q1, _⟩ := fits_info (hT _ _ hs)
   exact ⟨.int _ _, by simp [convert, run_underlying q1, run_underlying hu, Conv.intToInt], .int _ _⟩
  ·cases hv
 case nilCheck y =>
  have hy := ev_rel h y
  split at hv
  ·rename_i m i j hb
   injection hv with hv; subst hv
   rw [hb] at hy
   generalize hq : a.eval y = yv at hy
   have hy2 := hy
   cases hy
   exact ⟨.pointer (some _), by simp [hq], hy2⟩
  ·rename_i sz es i j hb
   injection hv with hv; subst hv
   rw [hb] at hy
   generalize hq : a.eval y = yv at hy
   have hy2 := hy
   cases hy
   exact ⟨.pointer (some _), by simp [hq], hy2⟩
  ·cases hv
 case extract y i =>
  have hy := ev_rel h y
  refine lift _ ?_
  split at hv
  ·rename_i vs hb
   rw [hb] at hy
   generalize a.eval y = yv at hy ⊢
   cases hy with
   | tup hr =>
    obtain ⟨v, h1, h2⟩ := hr.none_at hv
    exact ⟨v, by simp [Instr.extract, h1], h2⟩
  ·cases hv
 case fieldAddr s y f =>
  have hy := ev_rel h y
  refine lift _ ?_
  split at hv
  ·rename_i fl hk
   obtain ⟨i, hi, hk, hf⟩ := kind_some hT hk
   split at hv
   ·rename_i p m r j hp hb
    injection hv with hv; subst hv
    rw [hb] at hy
    generalize a.eval y = yv at hy ⊢
    cases hy with
    | ptr hm =>
     refine ⟨_, field_run hf hk hp _ w, ?_⟩
     rw [add_mk]
     have := Rel.ptr (w := w) (S := Sof S0 fs) (i := r) (j := j + p.1) hm
     simpa [Nat.add_assoc] using this
   ·rename_i p sz es r j hp hb
    injection hv with hv; subst hv
    rw [hb] at hy
    generalize a.eval y = yv at hy ⊢
    cases hy with
    | rp hu hr hc =>
     refine ⟨_, field_run hf hk hp _ w, ?_⟩
     rw [add_add, Nat.add_assoc]
     exact .rp hu hr hc
   ·cases hv
  ·cases hv
 case indexAddr t y ix =>
  have hy := ev_rel h y
  refine lift _ ?_
  split at hv
  ·rename_i e hk
   obtain ⟨i, hi, hk, hf⟩ := kind_some hT hk
   split at hv
   ·rename_i ie sz es k n he hb hn
    split at hv
    ·rename_i hcond
     injection hv with hv; subst hv
     rw [hb] at hy
     have en := ev_int h hn
     obtain ⟨ad, cap, hv, hcap, hform⟩ := row_form hy
     obtain ⟨x, vs, rfl, hu, hr, hc⟩ := hform n.toNat (by omega)
     rw [hv, en]
     refine ⟨_, index_run hf hk (hT _ _ he) x _ _ _ n hcond.2.1 hcond.2.2 w, ?_⟩
     rw [← hcond.1]
     have := Rel.rp (w := w) (φ := φ) (i := n.toNat) (j := 0) hu hr hc
     simpa using this
    ·cases hv
   ·rename_i ie m b len k n he hb hn
    split at hv
    ·rename_i hcond
     injection hv with hv; subst hv
     rw [hb] at hy
     have en := ev_int h hn
     obtain ⟨ad, c, hv, hcap, l, hm, had⟩ := sl_form hy
     obtain ⟨l', hm', hsz⟩ := bsz_loc h hcond.1
     have : l' = l := by rw [hm] at hm'; injection hm' with q; injection q with q; exact q.symm
     subst this
     rw [hv, en, had (by omega)]
     refine ⟨_, index_run hf hk (hT _ _ he) _ _ _ _ n hcond.2.1 hcond.2.2 w, ?_⟩
     rw [add_mk, ← hsz]
     have := Rel.ptr (w := w) (S := Sof S0 fs) (i := b + n.toNat) (j := 0) hm
     simpa [Nat.add_mul, Nat.add_assoc] using this
    ·cases hv
   ·cases hv
  ·cases hv
 case slice t y lo hi mx =>
  refine lift _ ?_
  cases mx with
  | some _ => cases hv
  | none => exact slice_run hT h (ev_rel h y) hv
 case build t parts =>
  refine lift _ ?_
  split at hv
  ·rename_i i hi
   split at hv
   ·rename_i fl hk
    obtain ⟨cs, h1, rfl⟩ := Option.map_eq_some_iff.1 hv
    have hf := hT _ _ hi
    obtain ⟨d, inf, z, q1, q2, q3, q4, q5, q6, q7, q8⟩ := fits_info hf
    obtain ⟨vout, h2, h3⟩ := fillA_rel (a := a) (fun x => ev_rel h x) (simples_rel q7) h1
    refine ⟨.agg vout, ?_, ?_⟩
    ·refine run_build w t _ vout (built_fit hf hk ?_)
     intro z' hz'
     have : z' = z := by rw [q2] at hz'; simp [q6] at hz'; exact hz'.symm
     subst this
     rw [← h2]
     congr 1
     simp
    ·have := Rel.agg h3
     simpa using this
   ·cases hv
  ·cases hv
 case makeFunc fn first caps =>
  refine lift _ ?_
  split at hv
  ·rename_i f
   split at hv
   ·rename_i hz
    injection hv with hv; subst hv
    have hfirst : first = #[] := by simpa using hz
    subst hfirst
    refine ⟨.func (.func f) #[] (caps.map a.eval), by simp [Instr.makeFunc], ?_⟩
    have : RelL w (Sof S0 fs) φ (caps.toList.map (ev st.env)) (caps.toList.map a.eval) [] := by
     induction caps.toList with
     | nil => exact .nil
     | cons c l ih => exact .cons (f := []) (fs := []) (ev_rel h c) ih
    have e : caps.map a.eval = (caps.toList.map a.eval).toArray := by apply Array.ext'; simp
    show Rel _ _ _ _ (Value.func (.func f) #[] (caps.map a.eval)) _
    rw [e]
    exact Rel.fn this
   ·cases hv
  ·cases hv
 case load t p =>
  have hp := ev_rel h p
  refine lift _ ?_
  split at hv
  ·rename_i i sz es r j hi hb
   rw [hb] at hp
   have hf := hT _ _ hi
   obtain ⟨cs, h1, h2⟩ := Option.bind_eq_some_iff.1 hv
   obtain ⟨ad, vs, e1, e2, e3, e4⟩ := rd_ro hp h1
   rw [e1]
   obtain ⟨v, q1, q2⟩ := aload_run hf h2 e3 e2 e4
   exact ⟨v, by simpa [Instr.loadAt, Instr.sureAddr] using q1, q2⟩
  ·rename_i i m r j hi hb
   rw [hb] at hp
   have hf := hT _ _ hi
   split at hv
   ·rename_i cs h1
    split at hv
    ·rename_i ho
     obtain ⟨ad, vs, e1, e2, e3, e4⟩ := rd_ptr h hp h1 ho
     rw [e1]
     obtain ⟨v, q1, q2⟩ := aload_run hf hv e3 e2 e4
     exact ⟨v, by simpa [Instr.loadAt, Instr.sureAddr] using q1, q2⟩
    ·cases hv
   ·cases hv
  ·cases hv
 case call c =>
  obtain ⟨callee, args, argTypes⟩ := c
  simp only at hv
  cases callee with
  | value f => cases hv
  | invoke r m => cases hv
  | builtin b =>
   simp only at hv
   split at hv
   ·rename_i y t h1 h2
    obtain rfl : args = #[y] := by apply Array.ext'; simpa using h1
    obtain rfl : argTypes = #[t] := by apply Array.ext'; simpa using h2
    have hy := ev_rel h y
    simp only [resolve, invoke, builtin, Sem.run_bind, Sem.run_pure, Result.andThen_ok, List.map_toArray, List.map_cons, List.map_nil]
    generalize hq : a.eval y = yv at hy
    split at hv
    ·cases hv
    ·rename_i e hk hns
     obtain ⟨i, hi, hk, hf⟩ := kind_some hT hk
     have hu := under_slice hf hk
     have hl : ∀ (ad : Option Addr) (n c : Nat), (Builtin.len_ #[t] o.type #[.slice ad n c]).run P w = .ok (.int .i64 n) w := fun ad n c => by
      have := run_len_slice (P := P) w t o.type ad n c (by rw [elem_of hu]; exact hu)
      simpa [goInt] using this
     cases hb : ev st.env y <;> rw [hb] at hv hy <;> simp only [alen, Option.some.injEq, reduceCtorEq] at hv
     ·exact (hns _ hb).elim
     ·subst hv; cases hy; exact ⟨.int _ _, by simp [hl], .int _ _⟩
     ·rename_i own sz es
      subst hv
      generalize hfp : ([] : List Nat) = fp at hy
      cases hy with
      | ro hu hr hc hl' => exact ⟨.int _ _, by simp [hl], .int _ _⟩
      | ro0 => exact ⟨.int _ _, by simp [hl], .int _ _⟩
      | own => cases hfp
      | own0 => exact ⟨.int _ _, by simp [hl], .int _ _⟩
     ·subst hv; cases hy; exact ⟨.int _ _, by simp [hl], .int _ _⟩
    ·rename_i s hk hb
     obtain ⟨i, hi, hk, hf⟩ := kind_some hT hk
     injection hv with hv; subst hv
     rw [hb] at hy
     cases hy
     have hu := under_str hf hk
     exact ⟨.int _ _, by simp [Builtin.len_, run_underlying hu, goInt], .int _ _⟩
    ·cases hv
   ·rename_i y z h1
    obtain rfl : args = #[y, z] := by apply Array.ext'; simpa using h1
    have hy := ev_rel h y
    have hz := ev_rel h z
    simp only [resolve, invoke, builtin, Sem.run_bind, Sem.run_pure, Result.andThen_ok, List.map_toArray, List.map_cons, List.map_nil]
    generalize a.eval y = yv at hy
    generalize a.eval z = zv at hz
    split at hv
    ·rename_i k p k' q e1 e2
     injection hv with hv; subst hv
     rw [e1] at hy; rw [e2] at hz
     cases hy; cases hz
     exact ⟨.int _ _, by simp [Builtin.min_, Builtin.min2], .int _ _⟩
    ·cases hv
   ·rename_i y z h1
    obtain rfl : args = #[y, z] := by apply Array.ext'; simpa using h1
    have hy := ev_rel h y
    have hz := ev_rel h z
    simp only [resolve, invoke, builtin, Sem.run_bind, Sem.run_pure, Result.andThen_ok, List.map_toArray, List.map_cons, List.map_nil]
    generalize a.eval y = yv at hy
    generalize a.eval z = zv at hz
    split at hv
    ·rename_i k p k' q e1 e2
     injection hv with hv; subst hv
     rw [e1] at hy; rw [e2] at hz
     cases hy; cases hz
     exact ⟨.int _ _, by simp [Builtin.max_, Builtin.max2], .int _ _⟩
    ·cases hv
   ·cases hv
end
end Go.Proofs.Ytimgfinlbhodhaa.Ab
namespace Go.Proofs.Ytimgfinlbhodhaa.Ab
open Go
set_option linter.unusedVariables false
set_option linter.unusedSimpArgs false
def hput (h : Heap) (base : Nat) (b : Blk) : Heap := if base < h.length then h.set base (some b) else h ++ [some b]
def φput (φ : List (Option Loc)) (base : Nat) (l : Loc) : List (Option Loc) := if base < φ.length then φ.set base (some l) else φ ++ [some l]
def hfree (h : Heap) (φ : List (Option Loc)) (base : Nat) : Prop := base = h.length ∨ (base < h.length ∧ h[base]? = some none ∧ φ[base]? = some none)
section
variable {P : Program} {T : Tab} {S0 : Nat → Prop} {st : St} {a : Act} {w : World} {φ : List (Option Loc)} {fs : List Nat}
theorem φput_ext {h : Heap} {base : Nat} {l : Loc} (hl : φ.length = h.length) (hf : hfree h φ base) : Ext φ (φput φ base l) := by
 intro m l' hm
 unfold φput
 rcases hf with e | ⟨e1, e2, e3⟩
 ·rw [if_neg (by omega)]; exact Ext.app φ [some l] m l' hm
 ·rw [if_pos (by omega), List.getElem?_set_ne]
  ·exact hm
  ·rintro rfl; rw [e3] at hm; cases hm
theorem φput_at {h : Heap} {base : Nat} {l : Loc} (hl : φ.length = h.length) (hf : hfree h φ base) : (φput φ base l)[base]? = some (some l) := by
 unfold φput
 rcases hf with e | ⟨e1, e2, e3⟩
 ·rw [if_neg (by omega), List.getElem?_append_right (by omega)]; simp [show base - φ.length = 0 by omega]
 ·rw [if_pos (by omega), List.getElem?_set_self (by omega)]
theorem HRel.at2 {S : Nat → Prop} {h : Heap} {ls : List (Option Loc)} {f : List Nat} (H : HRel w S φ h ls f) {m : Nat} {b : Option Blk} (hm : h[m]? = some b) :
  ∃ l f1 fb f2, ls[m]? = some l ∧ BRel w S φ b l fb ∧ f = f1 ++ (fb ++ f2) ∧
   ∀ (w' : World) (S' T : Nat → Prop) (φ' : List (Option Loc)) (b' : Option Blk) (l' : Option Loc) (fb' : List Nat), Fr T w w' → (∀ b, S' b → S b ∨ w.heap.size ≤ b) → (∀ b, T b → S b) → Ext φ φ' →
    (∀ g ∈ f1, ¬ T g) → (∀ g ∈ f2, ¬ T g) → BRel w' S' φ' b' l' fb' → HRel w' S' φ' (h.set m b') (ls.set m l') (f1 ++ (fb' ++ f2)) := by
 induction H generalizing m with
 | nil => simp at hm
 | cons h0 hs ih =>
  rename_i b0 l0 f0 bs ls0 fs0
  cases m with
  | zero =>
   simp at hm; subst hm
   refine ⟨l0, [], f0, fs0, rfl, h0, rfl, fun w' S' T φ' b' l' fb' hw hS hT hφ h1 h2 hb => ?_⟩
   rw [List.nil_append]; exact .cons hb (hs.frame hw hS hT hφ h2)
  | succ m =>
   obtain ⟨l, f1, fb, f2, e1, e2, e3, e4⟩ := ih (by simpa using hm)
   refine ⟨l, f0 ++ f1, fb, f2, by simpa using e1, e2, by rw [e3]; simp, fun w' S' T φ' b' l' fb' hw hS hT hφ h1 h2 hb => ?_⟩
   rw [List.append_assoc]
   exact .cons (h0.frame hw hS hT hφ (fun g hg => h1 g (by simp [hg]))) (e4 w' S' T φ' b' l' fb' hw hS hT hφ (fun g hg => h1 g (by simp [hg])) h2 hb)
theorem SRel.newBlk (h : SRel S0 st a w φ fs) {base : Nat} (hf : hfree st.heap φ base) {arr : Array Value} {ty : TypeId} {sz cap : Nat} {es : List (List A)} {vs : List Value} (hu : ∀ e ∈ es, e.length = sz)
  (hr : RelL w (Sof S0 fs) φ es.flatten vs []) (hc : ∀ (k : Nat) (v : Value), vs[k]? = some v → arr[k]? = some v) (hz : arr.size = cap * sz) (hl : es.length ≤ cap) :
  ∃ fs', SRel S0 { st with heap := hput st.heap base (sz, es) } a (w.alloc (.cells arr ty)) (φput φ base ⟨w.heap.size, 0, cap, sz⟩) fs' ∧ Fr (fun _ => False) w (w.alloc (.cells arr ty)) ∧
   (∀ b, b ∈ fs' → b ∈ fs ∨ w.heap.size ≤ b) ∧ Ext φ (φput φ base ⟨w.heap.size, 0, cap, sz⟩) ∧ (φput φ base ⟨w.heap.size, 0, cap, sz⟩)[base]? = some (some ⟨w.heap.size, 0, cap, sz⟩) := by
 have hlen := h.heap.length
 have hext := φput_ext (l := ⟨w.heap.size, 0, cap, sz⟩) hlen hf
 have hat := φput_at (l := ⟨w.heap.size, 0, cap, sz⟩) hlen hf
 generalize hφ' : φput φ base ⟨w.heap.size, 0, cap, sz⟩ = φ' at hext hat ⊢
 have hfr : Fr (fun _ => False) w (w.alloc (.cells arr ty)) := ⟨rfl, rfl, rfl, by show _ ≤ (w.heap.push _).size; simp, fun b hb _ => heap_alloc_old w _ b hb⟩
 have hltS : ∀ b ∈ fs, b < w.heap.size := h.heap.lt
 have key : ∀ fs' : List Nat, (∀ b, b ∈ fs' ↔ b ∈ fs ∨ b = w.heap.size) → fs'.Nodup → HRel (w.alloc (.cells arr ty)) (Sof S0 fs') φ' (hput st.heap base (sz, es)) φ' fs' →
   SRel S0 { st with heap := hput st.heap base (sz, es) } a (w.alloc (.cells arr ty)) φ' fs' := by
  intro fs' hm hn hh
  refine ⟨h.defers, h.size, h.env_frame hfr (fun _ h => h.elim) (fun b hb => ((hm b).1 hb).imp id (fun e => by omega)) hext, hh, hn, ?_, fun b hb => Nat.lt_of_lt_of_le (h.low b hb) hfr.size⟩
  intro b hb
  rcases (hm b).1 hb with hb | rfl
  ·exact h.apart b hb
  ·intro hs; exact absurd (h.low _ hs) (by omega)
 have brel : ∀ fs' : List Nat, (∀ b, b ∈ fs' ↔ b ∈ fs ∨ b = w.heap.size) → BRel (w.alloc (.cells arr ty)) (Sof S0 fs') φ' (some (sz, es)) (some ⟨w.heap.size, 0, cap, sz⟩) [w.heap.size] := by
  intro fs' hm
  refine ⟨rfl, .inr ⟨arr, ty, vs, [], rfl, heap_alloc_new w _, by simpa using hz, hu, ?_, by simpa using hc, hl⟩⟩
  exact hr.frame hfr (fun b hb => hb.elim (fun h0 => .inl (.inl h0)) (fun hb => ((hm b).1 hb).elim (fun h1 => .inl (.inr h1)) (fun e => .inr (by omega)))) (fun _ h => h.elim) hext (by simp)
 have hsub : ∀ fs' : List Nat, (∀ b, b ∈ fs' ↔ b ∈ fs ∨ b = w.heap.size) → ∀ b, Sof S0 fs' b → Sof S0 fs b ∨ w.heap.size ≤ b := fun fs' hm b hb =>
  hb.elim (fun h0 => .inl (.inl h0)) (fun hb => ((hm b).1 hb).elim (fun h1 => .inl (.inr h1)) (fun e => .inr (by omega)))
 rcases hf with e | ⟨e1, e2, e3⟩
 ·have hm : ∀ b, b ∈ fs ++ [w.heap.size] ↔ b ∈ fs ∨ b = w.heap.size := by simp
  have e0 : hput st.heap base (sz, es) = st.heap ++ [some (sz, es)] := by unfold hput; rw [if_neg (by omega)]
  have e4 : φ' = φ ++ [some ⟨w.heap.size, 0, cap, sz⟩] := by rw [← hφ']; unfold φput; rw [if_neg (by omega)]
  refine ⟨fs ++ [w.heap.size], key _ hm ?_ ?_, hfr, fun b hb => ((hm b).1 hb).imp id (fun e => by omega), hext, hat⟩
  ·refine List.nodup_append.2 ⟨h.nodup, by simp, ?_⟩
   intro b hb c hc e
   simp at hc
   have := hltS b hb
   omega
  ·have h1 := h.heap.frame (φ' := φ') hfr (hsub _ hm) (fun _ h => h.elim) hext (fun _ _ h => h)
   have h2 := h1.snoc (brel _ hm)
   rw [e0]
   rw [← e4] at h2
   exact h2
 ·obtain ⟨l0, f1, fb, f2, q1, q2, q3, q4⟩ := h.heap.at2 e2
  have : fb = [] := q2
  subst this
  have hm : ∀ b, b ∈ f1 ++ ([w.heap.size] ++ f2) ↔ b ∈ fs ∨ b = w.heap.size := by
   intro b; rw [q3]; simp only [List.mem_append, List.mem_singleton, List.not_mem_nil, false_or]; constructor
   ·rintro (h | h | h); exact .inl (.inl h); exact .inr h; exact .inl (.inr h)
   ·rintro ((h | h) | h); exact .inl h; exact .inr (.inr h); exact .inr (.inl h)
  have e0 : hput st.heap base (sz, es) = st.heap.set base (some (sz, es)) := by unfold hput; rw [if_pos e1]
  have e4 : φ' = φ.set base (some ⟨w.heap.size, 0, cap, sz⟩) := by rw [← hφ']; unfold φput; rw [if_pos (by omega)]
  refine ⟨_, key _ hm ?_ ?_, hfr, fun b hb => ((hm b).1 hb).imp id (fun e => by omega), hext, hat⟩
  ·have hn := h.nodup
   rw [q3, List.nil_append] at hn
   rw [List.nodup_append] at hn ⊢
   have hlt1 : ∀ b ∈ f1, b < w.heap.size := fun b hb => hltS b (by rw [q3]; simp [hb])
   have hlt2 : ∀ b ∈ f2, b < w.heap.size := fun b hb => hltS b (by rw [q3]; simp [hb])
   refine ⟨hn.1, List.nodup_append.2 ⟨by simp, hn.2.1, ?_⟩, ?_⟩
   ·intro b hb c hc e
    simp at hb
    have := hlt2 c hc
    omega
   ·intro b hb c hc e
    rcases List.mem_append.1 hc with hc | hc
    ·simp at hc; have := hlt1 b hb; omega
    ·exact hn.2.2 b hb c hc e
  ·rw [e0]
   have := q4 (w.alloc (.cells arr ty)) (Sof S0 (f1 ++ ([w.heap.size] ++ f2))) (fun _ => False) φ' (some (sz, es)) (some ⟨w.heap.size, 0, cap, sz⟩) [w.heap.size] hfr (hsub _ hm) (fun _ h => h.elim) hext (fun _ _ h => h) (fun _ _ h => h) (brel _ hm)
   rw [← e4] at this
   exact this
def fillE (size : Nat) : List (List A) → List (Nat × A) → Option (List (List A))
 | es, [] => some es
 | es, (i, x) :: rest =>
  match cellsOf x with
  | some cs => if cs.length = size ∧ i < es.length then fillE size (es.set i cs) rest else none
  | none => none
def anew (T : Tab) (env : List (Nat × A)) : Op → Option (Blk × Bool)
 | .alloc t => match T t with
  | some i => some ((i.size, [i.zero]), false)
  | none => none
 | .box t x => match cellsOf (ev env x) with
  | some cs => some ((cs.length, [cs]), false)
  | none => none
 | .buildSlice t len parts => match (T t).map TI.kind with
  | some (TK.slice e) => match T e with
   | some i => if len * i.size ≤ 16777216 then (fillE i.size (List.replicate len i.zero) (parts.toList.map fun p => (p.1, ev env p.2))).map fun es => ((i.size, es), true) else none
   | none => none
  | _ => none
 | .makeSlice t l c => match (T t).map TI.kind with
  | some (TK.slice e) => match T e, ev env l, ev env c with
   | some i, .int _ n, .int _ n' => if n = n' ∧ 0 ≤ n ∧ n ≤ 4611686018427387904 ∧ (i.bytes : Int) * n ≤ 140737488355328 then some ((i.size, List.replicate n.toNat i.zero), true) else none
   | _, _, _ => none
  | _ => none
 | _ => none
theorem flat_set_elem {α : Type} {es : List (List α)} {sz i : Nat} {e : List α} (hu : ∀ e ∈ es, e.length = sz) (hi : i < es.length) : (es.set i e).flatten = es.flatten.take (i * sz) ++ (e ++ es.flatten.drop (i * sz + sz)) := by
 have h1 : i * sz + sz = (i + 1) * sz := by rw [Nat.add_mul]; omega
 rw [List.set_eq_take_append_cons_drop, if_pos hi, List.flatten_append, List.flatten_cons, flat_take hu, h1, flat_drop hu]
theorem uni_set {α : Type} {es : List (List α)} {sz i : Nat} {e : List α} (hu : ∀ e ∈ es, e.length = sz) (he : e.length = sz) : ∀ x ∈ es.set i e, x.length = sz := by
 intro x hx
 rcases List.mem_or_eq_of_mem_set hx with h | h
 ·exact hu x h
 ·rw [h]; exact he
theorem fillE_rel {S : Nat → Prop} {env : List (Nat × A)} (he : ∀ x, Rel w S φ (ev env x) (a.eval x) []) {size : Nat} {ps : List (Nat × Operand)} {es out : List (List A)} {vcells : Array Value}
  (hu : ∀ e ∈ es, e.length = size) (hc : RelL w S φ es.flatten vcells.toList []) (h : fillE size es (ps.map fun p => (p.1, ev env p.2)) = some out) :
  ∃ vout, Instr.fill (fun i => some (i * size, size)) vcells (ps.map fun p => (p.1, a.eval p.2)) = some vout ∧ RelL w S φ out.flatten vout.toList [] ∧ (∀ e ∈ out, e.length = size) ∧ out.length = es.length := by
 induction ps generalizing es vcells with
 | nil => simp [fillE] at h; subst h; exact ⟨vcells, rfl, hc, hu, rfl⟩
 | cons p ps ih =>
  obtain ⟨i, x⟩ := p
  have hx := he x
  generalize hv : a.eval x = v at hx
  simp only [List.map_cons, fillE] at h
  simp only [List.map_cons, hv]
  split at h
  ·rename_i cs h2
   split at h
   ·rename_i h3
    have hcs := cells_rel hx h2
    have hl := hcs.length
    have hl2 := hc.length
    rw [flat_len hu] at hl2
    have hvs : v.cells.size = size := by rw [← h3.1, hl]; simp
    have hfit : i * size + size ≤ vcells.size := by
     have : (i + 1) * size ≤ es.length * size := Nat.mul_le_mul_right _ h3.2
     rw [Nat.add_mul] at this
     simp at hl2
     omega
    have hset : (v.cells.zipIdx.foldl (fun cs (x : Value × Nat) => cs.setIfInBounds (i * size + x.2) x.1) vcells).toList = vcells.toList.take (i * size) ++ (v.cells.toList ++ vcells.toList.drop (i * size + size)) := by
     have := foldl_set v.cells.toList (i * size) 0 vcells (by simp; omega)
     simp only [Nat.add_zero, Array.length_toList, hvs] at this
     rw [← this, ← Array.foldl_toList]
     simp
    obtain ⟨vout, h5, h6, h7, h8⟩ := ih (es := es.set i cs) (vcells := v.cells.zipIdx.foldl (fun cs (x : Value × Nat) => cs.setIfInBounds (i * size + x.2) x.1) vcells) (uni_set hu h3.1)
     (by rw [hset, flat_set_elem hu h3.2]; exact (hc.take _).append (f := []) (g := []) (hcs.append (f := []) (g := []) (hc.drop _))) h
    refine ⟨vout, ?_, h6, h7, by simpa using h8⟩
    simp only [Instr.fill]
    rw [if_neg (by simp [hvs]; omega)]
    exact h5
   ·cases h
  ·cases h
theorem RelL.rep {S : Nat → Prop} {as : List A} {vs : List Value} (h : RelL w S φ as vs []) (n : Nat) : RelL w S φ (List.replicate n as).flatten (List.replicate n vs).flatten [] := by
 induction n with
 | zero => exact .nil
 | succ n ih => rw [List.replicate_succ, List.replicate_succ, List.flatten_cons, List.flatten_cons]; exact h.append (f := []) (g := []) ih
theorem made_flat (z : Array Value) (n : Nat) : (madeCells z (n * z.size)).toList = (List.replicate n z.toList).flatten := by
 apply List.ext_getElem?
 intro k
 by_cases hk : k < n * z.size
 ·have hz : 0 < z.size := by rcases Nat.eq_zero_or_pos z.size with h | h; (rw [h] at hk; simp at hk); exact h
  have hd := Nat.div_add_mod k z.size
  have hlt : k % z.size < z.size := Nat.mod_lt _ hz
  have hq : k / z.size < n := by rw [Nat.div_lt_iff_lt_mul hz]; exact hk
  have hu : ∀ e ∈ List.replicate n z.toList, e.length = z.size := fun e he => by rw [List.eq_of_mem_replicate he]; simp
  have := flat_get (i := k / z.size) (j := k % z.size) (e := z.toList) hu (by simp [hq]) hlt
  rw [Nat.mul_comm, hd] at this
  rw [this]
  simp [madeCells, hk, hlt]
 ·rw [List.getElem?_eq_none (by simp [madeCells]; omega), List.getElem?_eq_none (by rw [flat_len (sz := z.size) (fun e he => by rw [List.eq_of_mem_replicate he]; simp)]; simp; omega)]
theorem anew_run (hT : T.ok P) (h : SRel S0 st a w φ fs) {o : Oper} {sz : Nat} {es : List (List A)} {sl : Bool} (hv : anew T st.env o.op = some ((sz, es), sl)) :
  ∃ (arr : Array Value) (ty : TypeId), (execOp a.eval o).run P w = .ok (.value (if sl then .slice (some ⟨w.heap.size, 0, none⟩) es.length es.length else .pointer (some ⟨w.heap.size, 0, none⟩))) (w.alloc (.cells arr ty)) ∧
   (∀ e ∈ es, e.length = sz) ∧ RelL w (Sof S0 fs) φ es.flatten arr.toList [] ∧ arr.size = es.length * sz ∧ (sl = false → es.length = 1) := by
 have fin : ∀ (arr : Array Value), (∀ e ∈ es, e.length = sz) → RelL w (Sof S0 fs) φ es.flatten arr.toList [] → arr.size = es.length * sz := fun arr hu hr => by
  have := hr.length
  rw [flat_len hu] at this
  simpa using this.symm
 unfold execOp
 cases hop : o.op <;> rw [hop] at hv <;> simp only [anew, reduceCtorEq] at hv
 case alloc t =>
  split at hv
  ·rename_i i hi
   simp only [Option.some.injEq, Prod.mk.injEq] at hv
   obtain ⟨⟨rfl, rfl⟩, rfl⟩ := hv
   obtain ⟨d, inf, z, h1, h2, h3, h4, h5, h6, h7, h8⟩ := fits_info (hT _ _ hi)
   have hr : RelL w (Sof S0 fs) φ [i.zero].flatten z.cells.toList [] := by simpa using simples_rel h7
   have hu : ∀ e ∈ [i.zero], e.length = i.size := by simpa using h8
   exact ⟨z.cells, t, by simp [Instr.alloc, zeroValue, typeInfo, h2, h6, newVar, newRow], hu, hr, fin _ hu hr, fun _ => rfl⟩
  ·cases hv
 case box t x =>
  split at hv
  ·rename_i cs hcs
   simp only [Option.some.injEq, Prod.mk.injEq] at hv
   obtain ⟨⟨rfl, rfl⟩, rfl⟩ := hv
   have hr : RelL w (Sof S0 fs) φ [cs].flatten (a.eval x).cells.toList [] := by simpa using cells_rel (ev_rel h x) hcs
   have hu : ∀ e ∈ [cs], e.length = cs.length := by simp
   exact ⟨(a.eval x).cells, t, by simp [Instr.box, newVar, newRow], hu, hr, fin _ hu hr, fun _ => rfl⟩
  ·cases hv
 case buildSlice t len parts =>
  split at hv
  ·rename_i e hk
   obtain ⟨it, hit, hk, hf⟩ := kind_some hT hk
   split at hv
   ·rename_i i hi
    split at hv
    ·rename_i hsmall
     obtain ⟨es', h1, h2⟩ := Option.map_eq_some_iff.1 hv
     simp only [Prod.mk.injEq] at h2
     obtain ⟨⟨rfl, rfl⟩, rfl⟩ := h2
     obtain ⟨d, inf, z, q1, q2, q3, q4, q5, q6, q7, q8⟩ := fits_info (hT _ _ hi)
     have hu0 : ∀ e ∈ List.replicate len i.zero, e.length = i.size := fun e he => by rw [List.eq_of_mem_replicate he]; exact q8
     have hz := simples_rel (w := w) (S := Sof S0 fs) (φ := φ) q7
     have hzs : z.cells.size = i.size := by have := hz.length; rw [q8] at this; simpa using this.symm
     have hr0 : RelL w (Sof S0 fs) φ (List.replicate len i.zero).flatten (madeCells z.cells (len * i.size)).toList [] := by
      rw [← hzs, made_flat]
      exact hz.rep len
     obtain ⟨vout, g1, g2, g3, g4⟩ := fillE_rel (a := a) (fun x => ev_rel h x) hu0 hr0 h1
     have hlen : es'.length = len := by simpa using g4
     refine ⟨vout, e, ?_, g3, g2, fin _ g3 g2, fun h => by cases h⟩
     rw [hlen]
     have hparts : (parts.map fun (i, x) => (i, a.eval x)).toList = parts.toList.map fun p => (p.1, a.eval p.2) := by simp
     have hu := under_slice hf hk
     by_cases hpos : len * i.size = 0
     ·have hm : madeCells z.cells (len * i.size) = #[] := by rw [hpos]; apply Array.ext'; simp [madeCells]
      rw [hm] at g1
      have e1 : Array.map (fun x => (default : Value)) (Array.range 0) = #[] := by apply Array.ext'; simp
      have hno : ¬ len * i.size > 2 ^ 24 := by omega
      have : (Instr.buildSlice t len (parts.map fun (i, x) => (i, a.eval x))).run P w = .ok (.slice (some ⟨w.heap.size, 0, none⟩) len len) (w.alloc (.cells vout e)) := by
       simp only [Instr.buildSlice, Sem.run_bind, run_underlying hu, Result.andThen_ok, sizeOf, typeInfo, program, Sem.run, q2, Sem.run_pure, q4]
       rw [if_neg hno]
       simp [hpos]
       rw [e1, g1]
       simp [newRow]
      simp only [Sem.run_bind, this]
      rfl
     ·have := run_buildSlice (P := P) w t e len (parts.map fun (i, x) => (i, a.eval x)) vout inf z hu q2 q6 (by rw [q4]; omega) (by rw [q4]; exact hpos) (by
       rw [hparts, q4]
       exact g1)
      simp only [Sem.run_bind, this]
      rfl
    ·cases hv
   ·cases hv
  ·cases hv
 case makeSlice t l c =>
  split at hv
  ·rename_i e hk
   obtain ⟨it, hit, hk, hf⟩ := kind_some hT hk
   split at hv
   ·rename_i i k n k' n' hi hl hc
    split at hv
    ·rename_i hcond
     obtain ⟨rfl, h0, h1, h2⟩ := hcond
     simp only [Option.some.injEq, Prod.mk.injEq] at hv
     obtain ⟨⟨rfl, rfl⟩, rfl⟩ := hv
     obtain ⟨d, inf, z, q1, q2, q3, q4, q5, q6, q7, q8⟩ := fits_info (hT _ _ hi)
     have hu0 : ∀ e ∈ List.replicate n.toNat i.zero, e.length = i.size := fun e he => by rw [List.eq_of_mem_replicate he]; exact q8
     have hz := simples_rel (w := w) (S := Sof S0 fs) (φ := φ) q7
     have hzs : z.cells.size = i.size := by have := hz.length; rw [q8] at this; simpa using this.symm
     have hr0 : RelL w (Sof S0 fs) φ (List.replicate n.toNat i.zero).flatten (madeCells z.cells (n.toNat * i.size)).toList [] := by
      rw [← hzs, made_flat]
      exact hz.rep n.toNat
     refine ⟨madeCells z.cells (n.toNat * i.size), e, ?_, hu0, hr0, fin _ hu0 hr0, fun h => by cases h⟩
     have hu := under_slice hf hk
     have el := ev_int h hl
     have ec := ev_int h hc
     have := run_make (P := P) w t e inf z hu q2 q6 k k' n n (by omega) (Int.le_refl _) (by rw [q5]; omega) (by omega)
     simp only [Sem.run_bind, el, ec, this, q4]
     simp
    ·cases hv
   ·cases hv
  ·cases hv
end
end Go.Proofs.Ytimgfinlbhodhaa.Ab
namespace Go.Proofs.Ytimgfinlbhodhaa.Ab
open Go
set_option linter.unusedVariables false
set_option linter.unusedSimpArgs false
section
variable {P : Program} {T : Tab} {S0 : Nat → Prop} {st : St} {a : Act} {w : World} {φ : List (Option Loc)} {fs : List Nat}
theorem setRow_fr (w : World) (g : Nat) (arr : Array Value) : Fr (fun b => b = g) w (w.setRow g arr) :=
 ⟨rfl, rfl, rfl, by simp, fun b _ hn => setRow_other w g b arr hn⟩
theorem seg_get {α : Type} (L xs vs : List α) (o p n : Nat) (hn : xs.length = n) (hfit : o + p + n ≤ L.length) (hc : ∀ (k : Nat) (v : α), vs[k]? = some v → L[o + k]? = some v) (hlen : p + n ≤ vs.length) (k : Nat) (v : α)
  (hk : (vs.take p ++ (xs ++ (vs.drop p).drop n))[k]? = some v) : (L.take (o + p) ++ xs ++ L.drop (o + p + n))[o + k]? = some v := by
 have hp : (vs.take p).length = p := by simp; omega
 have ho : (L.take (o + p)).length = o + p := by simp; omega
 by_cases h1 : k < p
 ·rw [List.getElem?_append_left (by omega), List.getElem?_take_of_lt h1] at hk
  rw [List.getElem?_append_left (by simp; omega), List.getElem?_append_left (by omega), List.getElem?_take_of_lt (by omega)]
  exact hc k v hk
 ·rw [List.getElem?_append_right (by omega), hp] at hk
  by_cases h2 : k < p + n
  ·rw [List.getElem?_append_left (by omega)] at hk
   rw [List.getElem?_append_left (by simp; omega), List.getElem?_append_right (by omega), ho, show o + k - (o + p) = k - p by omega]
   exact hk
  ·rw [List.getElem?_append_right (by omega), List.getElem?_drop, List.getElem?_drop, hn, show p + (n + (k - p - n)) = k by omega] at hk
   rw [List.getElem?_append_right (by simp; omega), List.getElem?_drop]
   have := hc k v hk
   rw [← this]
   congr 1
   simp
   omega
theorem flat_cells {es : List (List A)} {sz r j : Nat} {e cs : List A} (hu : ∀ e ∈ es, e.length = sz) (he : es[r]? = some e) (hfit : j + cs.length ≤ sz) :
  (es.set r (e.take j ++ (cs ++ e.drop (j + cs.length)))).flatten = es.flatten.take (r * sz + j) ++ (cs ++ (es.flatten.drop (r * sz + j)).drop cs.length) := by
 obtain ⟨hrl, hee⟩ := List.getElem?_eq_some_iff.1 he
 have hel : e.length = sz := hu _ (List.mem_of_getElem? he)
 have h1 : (es.flatten.drop (r * sz)).take sz = e := by
  have := flat_sub (j := 0) (n := sz) hu he (by omega)
  simp only [Nat.add_zero, List.drop_zero] at this
  rw [this, List.take_of_length_le (by omega)]
 have h2 : es.flatten.drop (r * sz) = e ++ es.flatten.drop (r * sz + sz) := by
  have := List.take_append_drop sz (es.flatten.drop (r * sz))
  rw [h1, List.drop_drop] at this
  exact this.symm
 rw [flat_set_elem hu hrl, List.take_add, List.drop_drop, Nat.add_assoc (r * sz) j, ← List.drop_drop (i := j + cs.length) (j := r * sz)]
 generalize es.flatten.drop (r * sz + sz) = X at h2 ⊢
 rw [h2, List.take_append_of_le_length (by omega), List.drop_append_of_le_length (by omega)]
 simp [List.append_assoc]
theorem SRel.setBlk (h : SRel S0 st a w φ fs) {m sz : Nat} {es : List (List A)} (hm : st.heap[m]? = some (some (sz, es))) (hne : es ≠ []) :
  ∃ (l : Loc) (arr : Array Value) (ty : TypeId) (vs : List Value) (f0 : List Nat), φ[m]? = some (some l) ∧ l.sz = sz ∧ w.heap[l.g]? = some (.cells arr ty (0, 0)) ∧ arr.size = l.off + l.cap * sz ∧ (∀ e ∈ es, e.length = sz) ∧
   RelL w (Sof S0 fs) φ es.flatten vs f0 ∧ (∀ (k : Nat) (v : Value), vs[k]? = some v → arr[l.off + k]? = some v) ∧ es.length ≤ l.cap ∧
   ∀ (arr' : Array Value) (es' : List (List A)) (vs' : List Value) (f0' : List Nat), f0'.Sublist f0 → (∀ e ∈ es', e.length = sz) → RelL w (Sof S0 fs) φ es'.flatten vs' f0' →
    (∀ (k : Nat) (v : Value), vs'[k]? = some v → arr'[l.off + k]? = some v) → arr'.size = arr.size → es'.length ≤ l.cap →
    ∃ fs', SRel S0 { st with heap := st.heap.set m (some (sz, es')) } a (w.setRow l.g arr') φ fs' ∧ fs'.Sublist fs ∧ l.g ∈ fs := by
 obtain ⟨lo, f1, fb, f2, q1, q2, q3, q4⟩ := h.heap.at_ hm
 cases lo with
 | none => exact q2.elim
 | some l =>
  obtain ⟨hz, q2⟩ := q2
  rcases q2 with q2 | ⟨arr, ty, vs, f0, rfl, r1, r2, r3, r4, r5, r6⟩
  ·exact absurd q2.2.1 hne
  ·refine ⟨l, arr, ty, vs, f0, q1, hz, r1, r2, r3, r4, r5, r6, ?_⟩
   intro arr' es' vs' f0' hsub hu' hr' hc' hs' hl'
   have hn := h.nodup
   rw [q3] at hn
   have hn2 := List.nodup_append.1 hn
   have hn3 := List.nodup_append.1 hn2.2.1
   have hn4 := List.nodup_cons.1 hn3.1
   have hg : l.g ∈ fs := by rw [q3]; simp
   have hfr := setRow_fr w l.g arr'
   have hT : ∀ b, b = l.g → Sof S0 fs b := fun b e => .inr (by rw [e]; exact hg)
   have hsubl : (f1 ++ ((l.g :: f0') ++ f2)).Sublist fs := by
    rw [q3]
    exact (List.Sublist.refl f1).append ((hsub.cons_cons l.g).append (List.Sublist.refl f2))
   have hS : ∀ b, Sof S0 (f1 ++ ((l.g :: f0') ++ f2)) b → Sof S0 fs b ∨ w.heap.size ≤ b := fun b hb => .inl (hb.imp id (fun hb => hsubl.subset hb))
   have hb : BRel (w.setRow l.g arr') (Sof S0 (f1 ++ ((l.g :: f0') ++ f2))) φ (some (sz, es')) (some l) (l.g :: f0') := by
    refine ⟨hz, .inr ⟨arr', ty, vs', f0', rfl, setRow_heap w l.g arr arr' ty _ r1, by rw [hs']; exact r2, hu', ?_, hc', hl'⟩⟩
    exact hr'.frame hfr hS hT (Ext.refl φ) (fun g hg e => hn4.1 (by rw [← e]; exact hsub.subset hg))
   refine ⟨_, ⟨h.defers, h.size, h.env_frame hfr (fun b e => by rw [e]; exact hg) (fun b hb => .inl (hsubl.subset hb)) (Ext.refl φ), ?_, hsubl.nodup h.nodup, fun b hb => h.apart b (hsubl.subset hb), fun b hb => by simpa using h.low b hb⟩, hsubl, hg⟩
   exact q4 _ _ _ φ _ _ hfr hS hT (Ext.refl φ) (fun g hg e => by subst e; exact hn2.2.2 _ hg _ (by simp) rfl) (fun g hg e => by subst e; exact hn3.2.2 _ (by simp) _ hg rfl) hb
def setCells (e : List A) (j : Nat) (cs : List A) : List A := e.take j ++ (cs ++ e.drop (j + cs.length))
def astore (T : Tab) (env : List (Nat × A)) (h : Heap) : Op → Option (Nat × Blk)
 | .store t p x => match T t, ev env p, cellsOf (ev env x) with
  | some i, .ptr m r j, some cs => match h[m]? with
   | some (some (sz, es)) => match es[r]? with
    | some e => if cs.length = i.size ∧ cs.all okc = true ∧ j + cs.length ≤ e.length then some (m, sz, es.set r (setCells e j cs)) else none
    | none => none
   | _ => none
  | _, _, _ => none
 | _ => none
theorem astore_run (hT : T.ok P) (h : SRel S0 st a w φ fs) {o : Oper} {m : Nat} {b : Blk} (hv : astore T st.env st.heap o.op = some (m, b)) :
  ∃ w' fs', (execOp a.eval o).run P w = .ok .skip w' ∧ SRel S0 { st with heap := st.heap.set m (some b) } a w' φ fs' ∧ Fr (fun g => g ∈ fs) w w' ∧ fs'.Sublist fs := by
 unfold execOp
 cases hop : o.op <;> rw [hop] at hv <;> simp only [astore, reduceCtorEq] at hv
 case store t p x =>
  split at hv
  ·rename_i i m' r j cs hi hp hcs
   split at hv
   ·rename_i sz es hm
    split at hv
    ·rename_i e he
     split at hv
     ·rename_i hcond
      obtain ⟨hl, hok, hfit⟩ := hcond
      simp only [Option.some.injEq, Prod.mk.injEq] at hv
      obtain ⟨rfl, rfl⟩ := hv
      have hne : es ≠ [] := by rintro rfl; simp at he
      obtain ⟨l, arr, ty, vs, f0, q1, q2, q3, q4, q5, q6, q7, q8, q9⟩ := h.setBlk hm hne
      have hrl : r < es.length := (List.getElem?_eq_some_iff.1 he).1
      have hel : e.length = sz := q5 _ (List.mem_of_getElem? he)
      have hpv := ev_rel h p
      rw [hp] at hpv
      generalize hpe : a.eval p = pv at hpv
      cases hpv with
      | ptr hm2 =>
       rename_i l2
       have : l2 = l := by rw [q1] at hm2; injection hm2 with e1; injection e1 with e1; exact e1.symm
       subst this
       have hx := cells_rel (ev_rel h x) hcs
       have hxl := hx.length
       have hvl := q6.length
       rw [flat_len q5] at hvl
       obtain ⟨f1, f2, f3, e1, g1, g2, g3⟩ := q6.window (r * sz + j) cs.length
       have hsz : r * sz + sz ≤ es.length * sz := by have := Nat.mul_le_mul_right sz hrl; rw [Nat.succ_mul] at this; exact this
       have hsz2 : es.length * sz ≤ l2.cap * sz := Nat.mul_le_mul_right sz q8
       have hflat : (es.set r (setCells e j cs)).flatten = es.flatten.take (r * sz + j) ++ (cs ++ (es.flatten.drop (r * sz + j)).drop cs.length) := by
        exact flat_cells q5 he (by omega)
       obtain ⟨fs', s1, s2, s3⟩ := q9 (arr.toList.take (l2.off + (r * sz + j)) ++ (a.eval x).cells.toList ++ arr.toList.drop (l2.off + (r * sz + j) + (a.eval x).cells.toList.length)).toArray (es.set r (setCells e j cs))
        (vs.take (r * sz + j) ++ ((a.eval x).cells.toList ++ (vs.drop (r * sz + j)).drop cs.length)) (f1 ++ ([] ++ f3)) (by rw [e1]; exact (List.Sublist.refl f1).append ((List.nil_sublist f2).append (List.Sublist.refl f3)))
        (uni_set q5 (by unfold setCells; simp; omega)) (by rw [hflat]; exact g1.append (hx.append g3)) (by
         intro k v hk
         have := seg_get arr.toList (a.eval x).cells.toList vs l2.off (r * sz + j) cs.length hxl.symm (by simp; omega) (by simpa using q7) (by omega) k v hk
         rw [hxl] at this
         simpa using this) (by simp at hxl; simp; omega) (by simpa using q8)
       refine ⟨_, fs', ?_, s1, (setRow_fr w l2.g _).mono (fun b e => by rw [e]; exact s3), s2⟩
       have hrun := run_storeCells_at (P := P) l2.g (l2.off + (r * sz + j)) ty (a.eval x).cells.toList 0 arr w q3 (by simp at hxl; simp; omega) (okc_all hx hok)
       simp only [hpe, Instr.storeAt, Instr.sureAddr, Sem.run_bind, Sem.run_pure, Result.andThen_ok, storeVar, run_sizeOf_fit (hT _ _ hi)]
       have hsize : ¬ (a.eval x).cells.size ≠ i.size := by simp at hxl; omega
       rw [if_neg hsize]
       rw [q2]
       simp only [Nat.add_zero] at hrun
       rw [hrun]
       rfl
     ·cases hv
    ·cases hv
   ·cases hv
  ·cases hv
end
end Go.Proofs.Ytimgfinlbhodhaa.Ab
namespace Go.Proofs.Ytimgfinlbhodhaa.Ab
open Go
set_option linter.unusedVariables false
set_option linter.unusedSimpArgs false
section
variable {P : Program} {T : Tab} {S0 : Nat → Prop} {st : St} {a : Act} {w : World} {φ : List (Option Loc)} {fs : List Nat}
theorem app_room (t ty e : TypeId) (i : TypeInfo) (ht : P.underlying t = some (.slice e)) (hi : P.info? e = some i) (ao : Option Addr) (sLen sCap n c : Nat) (ax : Option Addr) (news : List Value)
  (hx : (Builtin.firstCells i.size n (.slice ax n c)).run P w = .ok news.toArray w) (hroom : sLen + n ≤ sCap) :
  (Builtin.append_ #[t, t] ty #[.slice ao sLen sCap, .slice ax n c]).run P w = (match ao with | none => .ok (.slice none (sLen + n) sCap) w | some b => ((storeCells (b.add (sLen * i.size)) news).run P w).andThen fun _ w' => .ok (.slice (some b) (sLen + n) sCap) w') := by
 cases ao with
 | none => simp [Builtin.append_, run_underlying ht, sizeOf, typeInfo, hi, Builtin.lenOf, hroom, hx]
 | some b => simp [Builtin.append_, run_underlying ht, sizeOf, typeInfo, hi, Builtin.lenOf, hroom, hx]
theorem app_grow (t ty e : TypeId) (i : TypeInfo) (z : Value) (ht : P.underlying t = some (.slice e)) (hi : P.info? e = some i) (hz : i.zero = some z) (ao : Option Addr) (sLen sCap n c : Nat) (ax : Option Addr) (olds news : List Value)
  (ho : (Builtin.firstCells i.size sLen (.slice ao sLen sCap)).run P w.drew = .ok olds.toArray w.drew) (hx : (Builtin.firstCells i.size n (.slice ax n c)).run P w.drew = .ok news.toArray w.drew)
  (hg : sCap < sLen + n) (h63 : ((sLen + n : Nat) : Int) ≤ 9223372036854775807) (hfit : Builtin.nextslicecap (sLen + n) sCap * i.bytes ≤ 281474976710656) :
  (Builtin.append_ #[t, t] ty #[.slice ao sLen sCap, .slice ax n c]).run P w =
   .ok (.slice (some ⟨w.heap.size, 0, none⟩) (sLen + n) (grownCap w (sLen + n) sCap e)) (w.drew.alloc (.cells (olds.toArray ++ news.toArray ++ Builtin.zeroCells z.cells (grownCap w (sLen + n) sCap e - (sLen + n))) e)) := by
 have hn : ¬ (sLen + n ≤ sCap) := by omega
 have h63' : ¬ (9223372036854775807 < ((sLen : Int) + (n : Int))) := by omega
 have h48' : ¬ (281474976710656 < Builtin.nextslicecap (sLen + n) sCap * i.bytes) := by omega
 simp [Builtin.append_, run_underlying ht, sizeOf, typeInfo, zeroValue, hi, hz, Builtin.lenOf, hn, h63', h48', Question.forced, hx, ho, newRow, grownCap]
 congr 2
 apply Array.ext'
 simp [List.append_assoc]
def srcOf (h : Heap) (size : Nat) : A → Option (List (List A))
 | .nils => some []
 | .row false sz es => if sz = size then some es else none
 | .sl m lo len => if bsz h m = some size ∧ lo + len ≤ (bes h m).length then some (((bes h m).drop lo).take len) else none
 | _ => none
def copyable (c : A) : Bool := okc c && notOwn c
def aappend (T : Tab) (env : List (Nat × A)) (h : Heap) : Op → Option (Blk × Option Nat)
 | .call c => match c.callee, c.args.toList, c.argTypes.toList with
  | .builtin .append, [s, x], [t, t'] => match (T t).map TI.kind with
   | some (TK.slice e) => match T e with
    | some i => match srcOf h i.size (ev env s), srcOf h i.size (ev env x) with
     | some xs, some ys =>
      if t = t' ∧ i.size ≠ 0 ∧ ys.all (fun y => y.all copyable) = true ∧ ((xs.length + ys.length : Nat) : Int) ≤ 4611686018427387904 ∧ (xs.length + ys.length) * i.bytes ≤ 70368744177664 then
       match ev env s with
       | .nils => some ((i.size, xs ++ ys), none)
       | .sl m _ _ => some ((i.size, xs ++ ys), some m)
       | _ => none
      else none
     | _, _ => none
    | none => none
   | _ => none
  | _, _, _ => none
 | _ => none
theorem firstCells_run (size n c : Nat) (ad : Option Addr) (vs : List Value) (hl : vs.length = n * size) (hc : ∀ (x : Addr), ad = some x → ∀ (k : Nat) (v : Value), vs[k]? = some v → w.cell? (x.add k) = some v) (hn : ad = none → vs = []) :
  (Builtin.firstCells size n (.slice ad n c)).run P w = .ok vs.toArray w := by
 cases ad with
 | none => rw [hn rfl]; simp [Builtin.firstCells]
 | some x => exact run_firstCells_some (P := P) w size n x n c vs hl (hc x rfl)
theorem src_run (h : SRel S0 st a w φ fs) {size : Nat} {x : A} {v : Value} {ys : List (List A)} (hs : srcOf st.heap size x = some ys) (hx : Rel w (Sof S0 fs) φ x v []) :
  ∃ ad c vs f, v = .slice ad ys.length c ∧ ys.length ≤ c ∧ (∀ e ∈ ys, e.length = size) ∧ RelL w (Sof S0 fs) φ ys.flatten vs f ∧ (∀ (b : Addr), ad = some b → ∀ (k : Nat) (u : Value), vs[k]? = some u → w.cell? (b.add k) = some u) ∧ (ad = none → vs = []) := by
 cases x <;> simp only [srcOf, reduceCtorEq] at hs
 case nils => injection hs with hs; subst hs; cases hx; exact ⟨none, 0, [], [], rfl, Nat.le_refl _, by simp, .nil, by simp, fun _ => rfl⟩
 case row own sz es =>
  cases own <;> simp only [reduceCtorEq] at hs
  split at hs
  ·rename_i hz
   injection hs with hs
   subst hs hz
   obtain ⟨ad, cap, rfl, hcap, hf⟩ := row_form hx
   by_cases he : es = []
   ·subst he
    exact ⟨ad, cap, [], [], rfl, hcap, by simp, .nil, by simp, fun _ => rfl⟩
   ·obtain ⟨x, vs, rfl, hu, hr, hc⟩ := hf 0 (List.length_pos_iff.2 he)
    exact ⟨_, cap, vs, [], rfl, hcap, hu, hr.up, fun b hb k u hk => by injection hb with hb; subst hb; exact (hc k u hk).1, fun hn => by cases hn⟩
  ·cases hs
 case sl m lo len =>
  split at hs
  ·rename_i hcond
   injection hs with hs
   obtain ⟨hb, hle⟩ := hcond
   obtain ⟨ad, c, rfl, hc, l, hm, had⟩ := sl_form hx
   have hlen : ys.length = len := by rw [← hs]; simp; omega
   unfold bsz at hb
   unfold bes at hs hle
   split at hb
   ·rename_i b hbm
    obtain ⟨sz, es⟩ := b
    injection hb with hb
    simp only [hbm] at hs hle
    simp only at hb
    subst hb
    by_cases hz : len = 0
    ·have : ys = [] := List.eq_nil_of_length_eq_zero (by omega)
     subst this
     rw [hz]
     exact ⟨ad, c, [], [], by simp, Nat.zero_le _, by simp, .nil, by simp, fun _ => rfl⟩
    ·have hne : es ≠ [] := by rintro rfl; simp at hle; omega
     obtain ⟨l', arr, ty, vs, f0, q1, q2, q3, q4, q5, q6, q7, q8, q9⟩ := h.setBlk hbm hne
     have : l' = l := by rw [q1] at hm; injection hm with e1; injection e1
     subst this
     obtain ⟨g1, g2, g3, e1, _, r2, _⟩ := q6.window (lo * sz) (len * sz)
     have hfl : (es.flatten.drop (lo * sz)).take (len * sz) = ys.flatten := by rw [flat_drop q5, flat_take (uni_drop q5 lo), hs]
     rw [hfl] at r2
     refine ⟨ad, c, _, g2, by rw [hlen], by omega, by rw [← hs]; exact uni_take (uni_drop q5 lo) len, r2, ?_, fun hn => by rw [had (by omega)] at hn; cases hn⟩
     intro b hb k u hk
     rw [had (by omega)] at hb
     injection hb with hb
     subst hb
     have hk2 : vs[lo * sz + k]? = some u := by
      by_cases hlt : k < len * sz
      ·rwa [List.getElem?_take_of_lt hlt, List.getElem?_drop] at hk
      ·rw [List.getElem?_eq_none (by simp; omega)] at hk; cases hk
     rw [add_mk, q2]
     simp only [World.cell?, q3]
     rw [← q7 _ _ hk2]
     simp [Nat.add_assoc]
   ·cases hb
  ·cases hs
end
end Go.Proofs.Ytimgfinlbhodhaa.Ab
namespace Go.Proofs.Ytimgfinlbhodhaa.Ab
open Go
set_option linter.unusedVariables false
set_option linter.unusedSimpArgs false
section
variable {P : Program} {T : Tab} {S0 : Nat → Prop} {st : St} {a : Act} {w : World} {φ : List (Option Loc)} {fs : List Nat}
def hkill (h : Heap) : Option Nat → Heap
 | some m => h.set m none
 | none => h
theorem HRel.sub {S S' : Nat → Prop} {h : Heap} {ls : List (Option Loc)} {f : List Nat} (H : HRel w S φ h ls f) (hS : ∀ b, S' b → S b) : HRel w S' φ h ls f :=
 H.frame (Fr.refl (fun _ => False) w) (fun b hb => .inl (hS b hb)) (fun _ h => h.elim) (Ext.refl φ) (fun _ _ h => h)
theorem HRel.place {w' : World} {S S' T : Nat → Prop} {h : Heap} {fs : List Nat} (H : HRel w S φ h φ fs) {base : Nat} (hf : hfree h φ base) {l : Loc} {b : Blk} {fb : List Nat}
  (hw : Fr T w w') (hS : ∀ b, S' b → S b ∨ w.heap.size ≤ b) (hT : ∀ b, T b → S b) (hfs : ∀ g ∈ fs, ¬ T g) (hb : BRel w' S' (φput φ base l) (some b) (some l) fb) :
  ∃ fs', HRel w' S' (φput φ base l) (hput h base b) (φput φ base l) fs' ∧ fs'.Perm (fs ++ fb) := by
 have hlen := H.length
 have hext := φput_ext (l := l) hlen hf
 rcases hf with e | ⟨e1, e2, e3⟩
 ·have e4 : φput φ base l = φ ++ [some l] := by unfold φput; rw [if_neg (by omega)]
  have e0 : hput h base b = h ++ [some b] := by unfold hput; rw [if_neg (by omega)]
  have h1 := H.frame hw hS hT hext hfs
  have h2 := h1.snoc hb
  rw [e0]
  refine ⟨fs ++ fb, ?_, List.Perm.refl _⟩
  conv => arg 5; rw [e4]
  exact h2
 ·have e4 : φput φ base l = φ.set base (some l) := by unfold φput; rw [if_pos (by omega)]
  have e0 : hput h base b = h.set base (some b) := by unfold hput; rw [if_pos e1]
  obtain ⟨l0, f1, f0, f2, q1, q2, q3, q4⟩ := H.at2 e2
  have : f0 = [] := q2
  subst this
  have := q4 w' S' T (φput φ base l) (some b) (some l) fb hw hS hT hext (fun g hg => hfs g (by rw [q3]; simp [hg])) (fun g hg => hfs g (by rw [q3]; simp [hg])) hb
  rw [e0]
  refine ⟨f1 ++ (fb ++ f2), ?_, ?_⟩
  ·conv => arg 5; rw [e4]
   exact this
  ·rw [q3]
   simp only [List.nil_append, List.append_assoc]
   exact List.Perm.append_left f1 List.perm_append_comm
theorem SRel.to (h : SRel S0 st a w φ fs) {w' : World} {T : Nat → Prop} {φ' : List (Option Loc)} {h' : Heap} {fs' : List Nat} (hw : Fr T w w') (hT : ∀ b, T b → b ∈ fs) (hs : ∀ b, b ∈ fs' → b ∈ fs ∨ w.heap.size ≤ b) (hφ : Ext φ φ')
  (hn : fs'.Nodup) (hh : HRel w' (Sof S0 fs') φ' h' φ' fs') : SRel S0 { st with heap := h' } a w' φ' fs' :=
 ⟨h.defers, h.size, h.env_frame hw hT hs hφ, hh, hn, fun b hb => (hs b hb).elim (h.apart b) (fun hb hs => absurd (h.low b hs) (by omega)), fun b hb => Nat.lt_of_lt_of_le (h.low b hb) hw.size⟩
theorem SRel.swap (h : SRel S0 st a w φ fs) {base : Nat} (hf : hfree st.heap φ base) {k : Option Nat} {f1 fk f2 : List Nat} (hsplit : fs = f1 ++ (fk ++ f2))
  (hk : ∃ h1 : Heap, h1 = (hkill st.heap k) ∧ hfree h1 φ base ∧ HRel w (Sof S0 fs) φ h1 φ (f1 ++ f2))
  {w' : World} {T : Nat → Prop} {l : Loc} {b : Blk} {fb : List Nat} (hw : Fr T w w') (hT : ∀ b, T b → b ∈ fk) (hfb : ∀ b ∈ fb, b ∈ fk ∨ w.heap.size ≤ b) (hn : fb.Nodup)
  (hb : ∀ S', (∀ b, S' b → Sof S0 fs b ∨ w.heap.size ≤ b) → BRel w' S' (φput φ base l) (some b) (some l) fb) :
  ∃ fs', SRel S0 { st with heap := hput (hkill st.heap k) base b } a w' (φput φ base l) fs' ∧ Fr (fun g => g ∈ fs) w w' ∧ (∀ b, b ∈ fs' → b ∈ fs ∨ w.heap.size ≤ b) ∧ Ext φ (φput φ base l) ∧
   (φput φ base l)[base]? = some (some l) := by
 obtain ⟨h1, rfl, hf1, H1⟩ := hk
 have hlen := h.heap.length
 have hnd := h.nodup
 rw [hsplit] at hnd
 have hnd1 := List.nodup_append.1 hnd
 have hnd2 := List.nodup_append.1 hnd1.2.1
 have hin : ∀ b ∈ f1 ++ f2, b ∈ fs := fun b hb => by rw [hsplit]; rcases List.mem_append.1 hb with h | h <;> simp [h]
 have hink : ∀ b ∈ fk, b ∈ fs := fun b hb => by rw [hsplit]; simp [hb]
 have hdis : ∀ g ∈ f1 ++ f2, ¬ g ∈ fk := fun g hg hk => by
  rcases List.mem_append.1 hg with h | h
  ·exact hnd1.2.2 g h g (by simp [hk]) rfl
  ·exact hnd2.2.2 g hk g h rfl
 have hsub : ∀ b, (S0 b ∨ b ∈ (f1 ++ f2) ++ fb) → Sof S0 fs b ∨ w.heap.size ≤ b := fun b hb => by
  rcases hb with hb | hb
  ·exact .inl (.inl hb)
  ·rcases List.mem_append.1 hb with hb | hb
   ·exact .inl (.inr (hin b hb))
   ·exact (hfb b hb).imp (fun h => .inr (hink b h)) id
 obtain ⟨fs', H2, hp⟩ := H1.place hf1 (S' := fun b => S0 b ∨ b ∈ (f1 ++ f2) ++ fb) hw hsub (fun b hb => .inr (hink b (hT b hb))) (fun g hg ht => hdis g hg (hT g ht)) (hb _ hsub)
 have hmem : ∀ b, b ∈ fs' ↔ b ∈ (f1 ++ f2) ++ fb := fun b => hp.mem_iff
 refine ⟨fs', h.to hw (fun b hb => hink b (hT b hb)) (fun b hb => ?_) (φput_ext hlen hf) ?_ (H2.sub (fun b hb => hb.imp id (fun h => (hmem b).1 h))), hw.mono (fun b hb => hink b (hT b hb)), fun b hb => ?_, φput_ext hlen hf, φput_at hlen hf⟩
 ·rcases List.mem_append.1 ((hmem b).1 hb) with hb | hb
  ·exact .inl (hin b hb)
  ·exact (hfb b hb).imp (hink b) id
 ·refine hp.symm.nodup ?_
  refine List.nodup_append.2 ⟨List.nodup_append.2 ⟨hnd1.1, hnd2.2.1, fun x hx y hy e => hnd1.2.2 x hx y (by simp [hy]) e⟩, hn, ?_⟩
  intro x hx y hy e
  subst e
  rcases hfb x hy with hk | hk
  ·exact hdis x hx hk
  ·exact absurd (h.heap.lt x (hin x hx)) (by omega)
 ·rcases List.mem_append.1 ((hmem b).1 hb) with hb | hb
  ·exact .inl (hin b hb)
  ·exact (hfb b hb).imp (hink b) id
end
end Go.Proofs.Ytimgfinlbhodhaa.Ab
namespace Go.Proofs.Ytimgfinlbhodhaa.Ab
open Go
set_option linter.unusedVariables false
set_option linter.unusedSimpArgs false
section
variable {P : Program} {T : Tab} {S0 : Nat → Prop} {st : St} {a : Act} {w : World} {φ : List (Option Loc)} {fs : List Nat}
theorem copy_fp {S : Nat → Prop} {ys : List (List A)} {us : List Value} {f : List Nat} (h : RelL w S φ ys.flatten us f) (hc : ys.all (fun y => y.all copyable) = true) : f = [] ∧ ∀ u ∈ us, u.oneCell' = true := by
 have h1 : ys.flatten.all notOwn = true := by
  simp only [List.all_eq_true, copyable, Bool.and_eq_true, List.mem_flatten] at hc ⊢
  rintro c ⟨y, hy, hcy⟩
  exact (hc y hy c hcy).2
 have h2 : ys.flatten.all okc = true := by
  simp only [List.all_eq_true, copyable, Bool.and_eq_true, List.mem_flatten] at hc ⊢
  rintro c ⟨y, hy, hcy⟩
  exact (hc y hy c hcy).1
 exact ⟨notOwn_nil h h1, okc_all h h2⟩
theorem nextcap_le {need old bytes : Nat} (h : old < need) (hb : need * bytes ≤ 140737488355328) : Builtin.nextslicecap need old * bytes ≤ 281474976710656 := growslice_fits h hb
theorem app_fresh (h : SRel S0 st a w φ fs) {base : Nat} {k : Option Nat} {f1 fk f2 : List Nat} (hsplit : fs = f1 ++ (fk ++ f2)) (hf : hfree st.heap φ base)
  (hk : ∃ h1 : Heap, h1 = (hkill st.heap k) ∧ hfree h1 φ base ∧ HRel w (Sof S0 fs) φ h1 φ (f1 ++ f2))
  {e : Nat} {i : TI} (hi : i.fits P e = true) {xs ys : List (List A)} {vs us : List Value} {f0 : List Nat} (hux : ∀ x ∈ xs, x.length = i.size) (huy : ∀ x ∈ ys, x.length = i.size)
  (hx : RelL w (Sof S0 fs) φ xs.flatten vs f0) (hy : RelL w (Sof S0 fs) φ ys.flatten us []) (hf0 : ∀ b ∈ f0, b ∈ fk) (hn0 : f0.Nodup) {cap : Nat} (hcap : xs.length + ys.length ≤ cap) (z : Array Value) (hz : z.size = i.size)
  (ty : TypeId) :
  ∃ fs' φ', SRel S0 { st with heap := hput (hkill st.heap k) base (i.size, xs ++ ys) } a (w.drew.alloc (.cells (vs.toArray ++ us.toArray ++ Builtin.zeroCells z (cap - (xs.length + ys.length))) ty)) φ' fs' ∧
   Fr (fun g => g ∈ fs) w (w.drew.alloc (.cells (vs.toArray ++ us.toArray ++ Builtin.zeroCells z (cap - (xs.length + ys.length))) ty)) ∧ (∀ b, b ∈ fs' → b ∈ fs ∨ w.heap.size ≤ b) ∧ Ext φ φ' ∧
   Rel (w.drew.alloc (.cells (vs.toArray ++ us.toArray ++ Builtin.zeroCells z (cap - (xs.length + ys.length))) ty)) (Sof S0 fs') φ' (.sl base 0 (xs ++ ys).length) (.slice (some ⟨w.heap.size, 0, none⟩) (xs.length + ys.length) cap) [] := by
 have hvl := hx.length
 have hul := hy.length
 rw [flat_len hux] at hvl
 rw [flat_len huy] at hul
 have hfr : Fr (fun _ => False) w (w.drew.alloc (.cells (vs.toArray ++ us.toArray ++ Builtin.zeroCells z (cap - (xs.length + ys.length))) ty)) :=
  ⟨rfl, rfl, rfl, by show _ ≤ (w.heap.push _).size; simp, fun b hb _ => heap_alloc_old w.drew _ b hb⟩
 have hsize : (vs.toArray ++ us.toArray ++ Builtin.zeroCells z (cap - (xs.length + ys.length))).size = cap * i.size := by
  simp only [Array.size_append, List.size_toArray, Builtin.zeroCells, Array.size_map, Array.size_range, hz, ← hvl, ← hul, ← Nat.add_mul]
  congr 1
  omega
 obtain ⟨fs', g1, g2, g3, g4, g5⟩ := h.swap (base := base) (k := k) hf hsplit hk (l := ⟨w.heap.size, 0, cap, i.size⟩) (b := (i.size, xs ++ ys)) (fb := w.heap.size :: f0) hfr (fun _ h => h.elim)
  (by
   intro b hb
   rcases List.mem_cons.1 hb with rfl | hb
   ·exact .inr (Nat.le_refl _)
   ·exact .inl (hf0 b hb))
  (List.nodup_cons.2 ⟨fun hm => by
   have := h.heap.lt w.heap.size (by rw [hsplit]; simp [hf0 _ hm])
   omega, hn0⟩)
  (by
   intro S' hS'
   refine ⟨rfl, .inr ⟨_, ty, vs ++ us, f0 ++ [], by simp, heap_alloc_new w.drew _, by simpa using hsize, ?_, ?_, ?_, by simpa using hcap⟩⟩
   ·intro x hx
    rcases List.mem_append.1 hx with hx | hx
    ·exact hux x hx
    ·exact huy x hx
   ·rw [List.flatten_append]
    exact (hx.frame hfr hS' (fun _ h => h.elim) (φput_ext h.heap.length hf) (fun _ _ h => h)).append (hy.frame hfr hS' (fun _ h => h.elim) (φput_ext h.heap.length hf) (by simp))
   ·intro k v hk
    simp only [Nat.zero_add]
    rw [← Array.getElem?_toList]
    simp only [Array.toList_append, List.append_assoc]
    rw [← List.append_assoc, List.getElem?_append_left (by have := (List.getElem?_eq_some_iff.1 hk).1; simpa using this)]
    exact hk)
 refine ⟨fs', _, g1, g2, g3, g4, ?_⟩
 have := Rel.sl (w := w.drew.alloc (.cells (vs.toArray ++ us.toArray ++ Builtin.zeroCells z (cap - (xs.length + ys.length))) ty)) (S := Sof S0 fs') (lo := 0) (len := (xs ++ ys).length) (c := cap) (a := some ⟨w.heap.size, 0, none⟩) g5 (by simp) (by simpa using hcap) (fun _ => by simp)
 simpa using this
theorem app_room_sl (h : SRel S0 st a w φ fs) {base m : Nat} {f1 f2 f0 f0' : List Nat} {l : Loc} (hsplit : fs = f1 ++ ((l.g :: f0) ++ f2)) (hf : hfree st.heap φ base)
  (hk : ∃ h1 : Heap, h1 = st.heap.set m none ∧ hfree h1 φ base ∧ HRel w (Sof S0 fs) φ h1 φ (f1 ++ f2))
  {arr : Array Value} {ty : TypeId} (hh : w.heap[l.g]? = some (.cells arr ty (0, 0))) {sz : Nat} (hlz : l.sz = sz) (hz : arr.size = l.off + l.cap * sz)
  {xs ys : List (List A)} {vs us : List Value} (hux : ∀ x ∈ xs, x.length = sz) (huy : ∀ x ∈ ys, x.length = sz) (hx : RelL w (Sof S0 fs) φ xs.flatten vs f0') (hy : RelL w (Sof S0 fs) φ ys.flatten us []) (hsub : f0'.Sublist f0)
  {lo c : Nat} (hlo : lo + c = l.cap) (hroom : xs.length + ys.length ≤ c) (hcell : ∀ (k : Nat) (v : Value), vs[k]? = some v → arr[l.off + lo * sz + k]? = some v) :
  ∃ fs' φ', SRel S0 { st with heap := hput (st.heap.set m none) base (sz, xs ++ ys) } a (w.setRow l.g (arr.toList.take (l.off + (lo * sz + xs.length * sz)) ++ us ++ arr.toList.drop (l.off + (lo * sz + xs.length * sz) + us.length)).toArray) φ' fs' ∧
   Fr (fun g => g ∈ fs) w (w.setRow l.g (arr.toList.take (l.off + (lo * sz + xs.length * sz)) ++ us ++ arr.toList.drop (l.off + (lo * sz + xs.length * sz) + us.length)).toArray) ∧ (∀ b, b ∈ fs' → b ∈ fs ∨ w.heap.size ≤ b) ∧ Ext φ φ' ∧
   Rel (w.setRow l.g (arr.toList.take (l.off + (lo * sz + xs.length * sz)) ++ us ++ arr.toList.drop (l.off + (lo * sz + xs.length * sz) + us.length)).toArray) (Sof S0 fs') φ' (.sl base 0 (xs ++ ys).length) (.slice (some ⟨l.g, l.off + lo * sz, none⟩) (xs.length + ys.length) c) [] := by
 have hvl := hx.length
 have hul := hy.length
 rw [flat_len hux] at hvl
 rw [flat_len huy] at hul
 have hfr := setRow_fr w l.g (arr.toList.take (l.off + (lo * sz + xs.length * sz)) ++ us ++ arr.toList.drop (l.off + (lo * sz + xs.length * sz) + us.length)).toArray
 have hmul : (xs.length + ys.length) * sz ≤ c * sz := Nat.mul_le_mul_right _ hroom
 rw [Nat.add_mul] at hmul
 have hcapm : l.cap * sz = lo * sz + c * sz := by rw [← hlo, Nat.add_mul]
 have hnd := h.nodup
 rw [hsplit] at hnd
 have hnd3 := List.nodup_cons.1 (List.nodup_append.1 (List.nodup_append.1 hnd).2.1).1
 have hgin : l.g ∈ fs := by rw [hsplit]; simp
 obtain ⟨fs', g1, g2, g3, g4, g5⟩ := h.swap (base := base) (k := some m) hf hsplit hk (l := ⟨l.g, l.off + lo * sz, c, sz⟩) (b := (sz, xs ++ ys)) (fb := l.g :: f0') hfr (fun b e => by rw [e]; simp)
  (by
   intro b hb
   rcases List.mem_cons.1 hb with rfl | hb
   ·exact .inl (by simp)
   ·exact .inl (by simp [hsub.subset hb]))
  (List.nodup_cons.2 ⟨fun hm => hnd3.1 (hsub.subset hm), hsub.nodup hnd3.2⟩)
  (by
   intro S' hS'
   refine ⟨rfl, .inr ⟨_, ty, vs ++ us, f0' ++ [], by simp, setRow_heap w l.g arr _ ty _ hh, ?_, ?_, ?_, ?_, by simpa using hroom⟩⟩
   ·simp only [List.size_toArray, List.length_append, List.length_take, List.length_drop, Array.length_toList]
    rw [← hul]
    omega
   ·intro x hx
    rcases List.mem_append.1 hx with hx | hx
    ·exact hux x hx
    ·exact huy x hx
   ·rw [List.flatten_append]
    exact (hx.frame hfr hS' (fun b e => .inr (by rw [e]; exact hgin)) (φput_ext h.heap.length hf) (fun g hg e => hnd3.1 (by rw [← e]; exact hsub.subset hg))).append (hy.frame hfr hS' (fun b e => .inr (by rw [e]; exact hgin)) (φput_ext h.heap.length hf) (by simp))
   ·intro k v hk
    simp only [List.getElem?_toArray]
    by_cases hlt : k < vs.length
    ·rw [List.getElem?_append_left hlt] at hk
     rw [List.append_assoc, List.getElem?_append_left (by simp; omega), List.getElem?_take_of_lt (by omega)]
     have := hcell k v hk
     simpa using this
    ·rw [List.getElem?_append_right (by omega)] at hk
     have hlu := (List.getElem?_eq_some_iff.1 hk).1
     have htl : (arr.toList.take (l.off + (lo * sz + xs.length * sz))).length = l.off + (lo * sz + xs.length * sz) := by simp; omega
     rw [List.append_assoc, List.getElem?_append_right (by omega), htl, List.getElem?_append_left (by omega)]
     rw [← hk]
     congr 1
     omega)
 refine ⟨fs', _, g1, g2, g3, g4, ?_⟩
 have := Rel.sl (w := w.setRow l.g (arr.toList.take (l.off + (lo * sz + xs.length * sz)) ++ us ++ arr.toList.drop (l.off + (lo * sz + xs.length * sz) + us.length)).toArray) (S := Sof S0 fs') (lo := 0) (len := (xs ++ ys).length) (c := c) (a := some ⟨l.g, l.off + lo * sz, none⟩) g5 (by simp) (by simpa using hroom) (fun _ => by simp)
 simpa using this
end
end Go.Proofs.Ytimgfinlbhodhaa.Ab
namespace Go.Proofs.Ytimgfinlbhodhaa.Ab
open Go
set_option linter.unusedVariables false
set_option linter.unusedSimpArgs false
section
variable {P : Program} {T : Tab} {S0 : Nat → Prop} {st : St} {a : Act} {w : World} {φ : List (Option Loc)} {fs : List Nat}
theorem app_none (h : SRel S0 st a w φ fs) {base : Nat} {k : Option Nat} {f1 fk f2 : List Nat} (hsplit : fs = f1 ++ (fk ++ f2)) (hf : hfree st.heap φ base)
  (hk : ∃ h1 : Heap, h1 = (hkill st.heap k) ∧ hfree h1 φ base ∧ HRel w (Sof S0 fs) φ h1 φ (f1 ++ f2)) (sz : Nat) (ad : Option Addr) :
  ∃ fs' φ', SRel S0 { st with heap := hput (hkill st.heap k) base (sz, []) } a w φ' fs' ∧ Fr (fun g => g ∈ fs) w w ∧ (∀ b, b ∈ fs' → b ∈ fs ∨ w.heap.size ≤ b) ∧ Ext φ φ' ∧
   Rel w (Sof S0 fs') φ' (.sl base 0 0) (.slice ad 0 0) [] := by
 obtain ⟨fs', g1, g2, g3, g4, g5⟩ := h.swap (base := base) (k := k) hf hsplit hk (l := ⟨0, 0, 0, sz⟩) (b := (sz, [])) (fb := []) (Fr.refl (fun _ => False) w) (fun _ h => h.elim) (by simp) (by simp)
  (fun S' hS' => ⟨rfl, .inl ⟨rfl, rfl, rfl⟩⟩)
 exact ⟨fs', _, g1, g2, g3, g4, .sl g5 rfl (Nat.le_refl _) (fun h => absurd h (by omega))⟩
theorem aappend_run (hT : T.ok P) (h : SRel S0 st a w φ fs) {base : Nat} (hf : hfree st.heap φ base) {o : Oper} {sz : Nat} {es : List (List A)} {k : Option Nat} (hv : aappend T st.env st.heap o.op = some ((sz, es), k)) :
  ∃ v w' φ' fs', (execOp a.eval o).run P w = .ok (.value v) w' ∧ SRel S0 { st with heap := hput (hkill st.heap k) base (sz, es) } a w' φ' fs' ∧ Fr (fun g => g ∈ fs) w w' ∧ (∀ b, b ∈ fs' → b ∈ fs ∨ w.heap.size ≤ b) ∧ Ext φ φ' ∧
   Rel w' (Sof S0 fs') φ' (.sl base 0 es.length) v [] := by
 unfold execOp
 cases hop : o.op <;> rw [hop] at hv <;> simp only [aappend, reduceCtorEq] at hv
 case call c =>
  obtain ⟨callee, args, argTypes⟩ := c
  simp only at hv
  split at hv
  ·rename_i s x t t' h1 h2
   obtain rfl : args = #[s, x] := by apply Array.ext'; simpa using h1
   obtain rfl : argTypes = #[t, t'] := by apply Array.ext'; simpa using h2
   clear h1 h2
   split at hv
   ·rename_i e hk
    obtain ⟨it, hit, hk, hft⟩ := kind_some hT hk
    have hu := under_slice hft hk
    split at hv
    ·rename_i i hi
     obtain ⟨d, inf, z, q1, q2, q3, q4, q5, q6, q7, q8⟩ := fits_info (hT _ _ hi)
     split at hv
     ·rename_i xs ys hxs hys
      split at hv
      ·rename_i hcond
       obtain ⟨rfl, hz0, hcopy, h63, hby⟩ := hcond
       have hzs : z.cells.size = i.size := by have := (simples_rel (w := w) (S := Sof S0 fs) (φ := φ) q7).length; rw [q8] at this; simpa using this.symm
       obtain ⟨ad, c, vs, f, ev1, hc1, hux, hrx, hcx, hnx⟩ := src_run h hxs (ev_rel h s)
       obtain ⟨ax, cx, us, fy, ev2, hc2, huy, hry, hcy, hny⟩ := src_run h hys (ev_rel h x)
       obtain ⟨rfl, hone⟩ := copy_fp hry hcopy
       have hul := hry.length
       have hvl := hrx.length
       rw [flat_len huy] at hul
       rw [flat_len hux] at hvl
       have hfy : ∀ w2 : World, w2.heap = w.heap → (Builtin.firstCells inf.size ys.length (.slice ax ys.length cx)).run P w2 = .ok us.toArray w2 := fun w2 hw2 =>
        firstCells_run (P := P) (w := w2) inf.size ys.length cx ax us (by rw [q4]; exact hul.symm) (fun b hb k v hk => (cell_congr (by rw [hw2])).trans (hcy b hb k v hk)) hny
       have hfx : ∀ w2 : World, w2.heap = w.heap → (Builtin.firstCells inf.size xs.length (.slice ad xs.length c)).run P w2 = .ok vs.toArray w2 := fun w2 hw2 =>
        firstCells_run (P := P) (w := w2) inf.size xs.length c ad vs (by rw [q4]; exact hvl.symm) (fun b hb k v hk => (cell_congr (by rw [hw2])).trans (hcx b hb k v hk)) hnx
       have hu2 : P.underlying t = some (.slice e) := hu
       simp only [resolve, invoke, builtin, Sem.run_bind, Sem.run_pure, Result.andThen_ok, List.map_toArray, List.map_cons, List.map_nil, ev1, ev2]
       -- the row of old cells: whose it is
       have main : ∀ (k0 : Option Nat) (f1 fk f2 : List Nat) (f0 : List Nat), k = k0 → sz = i.size → es = xs ++ ys → fs = f1 ++ (fk ++ f2) →
         (∃ h1 : Heap, h1 = (hkill st.heap k0) ∧ hfree h1 φ base ∧ HRel w (Sof S0 fs) φ h1 φ (f1 ++ f2)) → RelL w (Sof S0 fs) φ xs.flatten vs f0 → (∀ b ∈ f0, b ∈ fk) → f0.Nodup →
         (xs.length + ys.length ≤ c → 0 < c → ∃ v w' φ' fs', (Builtin.append_ #[t, t] o.type #[.slice ad xs.length c, .slice ax ys.length cx]).run P w = .ok v w' ∧ SRel S0 { st with heap := hput (hkill st.heap k0) base (i.size, xs ++ ys) } a w' φ' fs' ∧ Fr (fun g => g ∈ fs) w w' ∧
          (∀ b, b ∈ fs' → b ∈ fs ∨ w.heap.size ≤ b) ∧ Ext φ φ' ∧ Rel w' (Sof S0 fs') φ' (.sl base 0 (xs ++ ys).length) v []) →
         ∃ v w' φ' fs', ((Builtin.append_ #[t, t] o.type #[.slice ad xs.length c, .slice ax ys.length cx]).run P w).andThen (fun a w' => .ok (Next.value a) w') = .ok (.value v) w' ∧ SRel S0 { st with heap := hput (hkill st.heap k) base (sz, es) } a w' φ' fs' ∧ Fr (fun g => g ∈ fs) w w' ∧
          (∀ b, b ∈ fs' → b ∈ fs ∨ w.heap.size ≤ b) ∧ Ext φ φ' ∧ Rel w' (Sof S0 fs') φ' (.sl base 0 es.length) v [] := by
        rintro k0 f1 fk f2 f0 rfl rfl rfl hsplit hkk hrx0 hf0 hn0 hroom
        have wrap : (∃ v w' φ' fs', (Builtin.append_ #[t, t] o.type #[.slice ad xs.length c, .slice ax ys.length cx]).run P w = .ok v w' ∧ SRel S0 { st with heap := hput (hkill st.heap k) base (i.size, xs ++ ys) } a w' φ' fs' ∧ Fr (fun g => g ∈ fs) w w' ∧
          (∀ b, b ∈ fs' → b ∈ fs ∨ w.heap.size ≤ b) ∧ Ext φ φ' ∧ Rel w' (Sof S0 fs') φ' (.sl base 0 (xs ++ ys).length) v []) → ∃ v w' φ' fs', ((Builtin.append_ #[t, t] o.type #[.slice ad xs.length c, .slice ax ys.length cx]).run P w).andThen (fun a w' => .ok (Next.value a) w') = .ok (.value v) w' ∧ SRel S0 { st with heap := hput (hkill st.heap k) base (i.size, xs ++ ys) } a w' φ' fs' ∧ Fr (fun g => g ∈ fs) w w' ∧
          (∀ b, b ∈ fs' → b ∈ fs ∨ w.heap.size ≤ b) ∧ Ext φ φ' ∧ Rel w' (Sof S0 fs') φ' (.sl base 0 (xs ++ ys).length) v [] := by
         rintro ⟨v, w', φ', fs', r1, r2, r3, r4, r5, r6⟩
         exact ⟨v, w', φ', fs', by rw [r1]; rfl, r2, r3, r4, r5, r6⟩
        apply wrap
        by_cases hr : xs.length + ys.length ≤ c
        ·by_cases hc0 : 0 < c
         ·exact hroom hr hc0
         ·obtain rfl : c = 0 := by omega
          have ex : xs = [] := List.eq_nil_of_length_eq_zero (by omega)
          have ey : ys = [] := List.eq_nil_of_length_eq_zero (by omega)
          subst ex ey
          have eus : us = [] := List.eq_nil_of_length_eq_zero (by rw [← hul]; simp)
          have ear := app_room (P := P) (w := w) t o.type e inf hu2 q2 ad 0 0 0 cx ax us (hfy w rfl) (by simp)
          obtain ⟨fs', φ', g1, g2, g3, g4, g5⟩ := app_none h (k := k) hsplit hf hkk i.size ad
          refine ⟨.slice ad 0 0, w, φ', fs', ?_, g1, g2, g3, g4, g5⟩
          rw [show ([] : List (List A)).length = 0 from rfl, ear]
          cases ad with
          | none => rfl
          | some b => rw [eus]; rfl
        ·have hgr := app_grow (P := P) (w := w) t o.type e inf z hu2 q2 q6 ad xs.length c ys.length cx ax vs us (hfx w.drew rfl) (hfy w.drew rfl) (by omega) (by omega) (nextcap_le (by omega) (by rw [q5]; omega))
         obtain ⟨fs', φ', g1, g2, g3, g4, g5⟩ := app_fresh h (k := k) hsplit hf hkk (hT _ _ hi) hux huy hrx0 hry hf0 hn0 (grownCap_ge w (xs.length + ys.length) c e) z.cells hzs e
         exact ⟨_, _, φ', fs', hgr, g1, g2, g3, g4, g5⟩
       split at hv
       ·rename_i hs
        simp only [Option.some.injEq, Prod.mk.injEq] at hv
        obtain ⟨⟨rfl, rfl⟩, rfl⟩ := hv
        have hnil := ev_rel h s
        rw [hs, ev1] at hnil
        rw [hs] at hxs
        simp only [srcOf, Option.some.injEq] at hxs
        subst hxs
        have hvnil : vs = [] := List.eq_nil_of_length_eq_zero (by rw [← hvl]; simp)
        subst hvnil
        refine main none fs [] [] [] rfl rfl rfl (by simp) ⟨st.heap, rfl, hf, by simpa using h.heap⟩ .nil (by simp) (by simp) ?_
        intro _ hc0
        cases hnil
        omega
       ·rename_i m lo len hs
        simp only [Option.some.injEq, Prod.mk.injEq] at hv
        obtain ⟨⟨rfl, rfl⟩, rfl⟩ := hv
        have hsl := ev_rel h s
        rw [hs, ev1] at hsl
        rw [hs] at hxs
        simp only [srcOf] at hxs
        split at hxs
        ·rename_i hcond
         injection hxs with hxs
         obtain ⟨hb, hle⟩ := hcond
         cases hsl with
         | sl hm hlo hlen had =>
          rename_i l
          unfold bsz at hb
          unfold bes at hxs hle
          split at hb
          ·rename_i b hbm
           obtain ⟨bz, bs⟩ := b
           injection hb with hb
           simp only [hbm] at hxs hle
           simp only at hb
           obtain ⟨lo0, f1, fk, f2, p1, p2, p3, p4⟩ := h.heap.at_ hbm
           rw [hm] at p1
           injection p1 with p1
           subst p1
           obtain ⟨hlz, p2⟩ := p2
           have hml : m < st.heap.length := (List.getElem?_eq_some_iff.1 hbm).1
           have H1 : HRel w (Sof S0 fs) φ (st.heap.set m none) φ (f1 ++ f2) := by
            have := p4 w (Sof S0 fs) (fun _ => False) φ none [] (Fr.refl _ w) (fun b hb => .inl hb) (fun _ h => h.elim) (Ext.refl φ) (fun _ _ h => h) (fun _ _ h => h) rfl
            simpa using this
           have hf1 : hfree (st.heap.set m none) φ base := by
            rcases hf with e | ⟨e1, e2, e3⟩
            ·exact .inl (by simpa using e)
            ·refine .inr ⟨by simpa using e1, ?_, e3⟩
             rw [List.getElem?_set_ne]
             ·exact e2
             ·rintro rfl; rw [hm] at e3; cases e3
           rcases p2 with p2 | ⟨arr, ty, bv, b0, rfl, r1, r2, r3, r4, r5, r6⟩
           ·have hbs : bs = [] := p2.2.1
            subst hbs
            have ex : xs = [] := by rw [← hxs]; simp
            subst ex
            have hvnil : vs = [] := List.eq_nil_of_length_eq_zero (by rw [← hvl]; simp)
            subst hvnil
            refine main (some m) f1 fk f2 [] rfl rfl rfl p3 ⟨_, rfl, hf1, H1⟩ .nil (by simp) (by simp) ?_
            intro _ hc0
            have := p2.1
            omega
           ·rw [hb] at r3 r2
            obtain ⟨g1, g2, g3, e1, _, w2, _⟩ := r4.window (lo * i.size) (xs.length * i.size)
            have hfl : (bs.flatten.drop (lo * i.size)).take (xs.length * i.size) = xs.flatten := by rw [flat_drop r3, flat_take (uni_drop r3 lo), hxs]
            rw [hfl] at w2
            have hnd := h.nodup
            rw [p3] at hnd
            have hnd3 := List.nodup_cons.1 (List.nodup_append.1 (List.nodup_append.1 hnd).2.1).1
            have hg2 : g2.Sublist b0 := by rw [e1]; exact (List.sublist_append_left g2 g3).trans (List.sublist_append_right g1 _)
            have hcellw : ∀ (k : Nat) (v : Value), ((bv.drop (lo * i.size)).take (xs.length * i.size))[k]? = some v → arr[l.off + lo * i.size + k]? = some v := by
             intro k v hk
             have hk2 : bv[lo * i.size + k]? = some v := by
              by_cases hlt : k < xs.length * i.size
              ·rwa [List.getElem?_take_of_lt hlt, List.getElem?_drop] at hk
              ·rw [List.getElem?_eq_none (by simp; omega)] at hk; cases hk
             rw [Nat.add_assoc]
             exact r5 _ _ hk2
            have hvsw : xs ≠ [] ∨ 0 < c → vs = (bv.drop (lo * i.size)).take (xs.length * i.size) := by
             intro hne
             have hlw := w2.length
             rw [flat_len hux] at hlw
             apply List.ext_getElem?
             intro k
             by_cases hk : k < vs.length
             ·have hcpos : 0 < c := by
               rcases hne with h | h
               ·have := List.length_pos_iff.2 h; omega
               ·exact h
              have h1 := hcx _ (had hcpos) k (vs[k]) (by simp [hk])
              obtain ⟨v2, hv2⟩ : ∃ v2, ((bv.drop (lo * i.size)).take (xs.length * i.size))[k]? = some v2 := ⟨_, List.getElem?_eq_getElem (by omega)⟩
              have h2 := hcellw k v2 hv2
              rw [add_mk, hlz, hb] at h1
              simp only [World.cell?, r1] at h1
              have : some vs[k] = some v2 := by rw [← h1, ← h2]; simp
              rw [hv2, ← this]
              simp [hk]
             ·rw [List.getElem?_eq_none (by omega), List.getElem?_eq_none (by omega)]
            by_cases hxe : xs = [] ∧ c = 0
            ·obtain ⟨ex, rfl⟩ := hxe
             subst ex
             have hvnil : vs = [] := List.eq_nil_of_length_eq_zero (by rw [← hvl]; simp)
             subst hvnil
             exact main (some m) f1 (l.g :: b0) f2 [] rfl rfl rfl p3 ⟨_, rfl, hf1, H1⟩ .nil (by simp) (by simp) (fun _ h => absurd h (by omega))
            ·have hvs := hvsw (by by_cases hx0 : xs = []; (right; have : c ≠ 0 := fun hc => hxe ⟨hx0, hc⟩; omega); exact .inl hx0)
             subst hvs
             refine main (some m) f1 (l.g :: b0) f2 g2 rfl rfl rfl p3 ⟨_, rfl, hf1, H1⟩ w2 (fun b hb => by simp [hg2.subset hb]) (hg2.nodup hnd3.2) ?_
             intro hroom hc0
             have had' := had hc0
             have ear := app_room (P := P) (w := w) t o.type e inf hu2 q2 ad xs.length c ys.length cx ax us (hfy w rfl) hroom
             obtain ⟨fs', φ', k1, k2, k3, k4, k5⟩ := app_room_sl h p3 hf ⟨_, rfl, hf1, H1⟩ r1 (hlz.trans hb) r2 hux huy w2 hry hg2 hlo hroom hcellw
             refine ⟨_, _, φ', fs', ?_, k1, k2, k3, k4, k5⟩
             rw [ear, had', hlz, hb, q4]
             simp only
             rw [add_mk]
             have hlen2 : us.length = ys.length * i.size := hul.symm
             have hmul : (xs.length + ys.length) * i.size ≤ c * i.size := Nat.mul_le_mul_right _ hroom
             rw [Nat.add_mul] at hmul
             have hcapm : l.cap * i.size = lo * i.size + c * i.size := by rw [← hlo, Nat.add_mul]
             have hst := run_storeCells_at (P := P) l.g (l.off + lo * i.size + xs.length * i.size) ty us 0 arr w r1 (by omega) hone
             simp only [Nat.add_zero] at hst
             rw [hst]
             simp only [Result.andThen_ok, Nat.add_assoc]
          ·cases hb
        ·cases hxs
       ·cases hv
      ·cases hv
     ·cases hv
    ·cases hv
   ·cases hv
  ·cases hv
end
end Go.Proofs.Ytimgfinlbhodhaa.Ab
namespace Go.Proofs.Ytimgfinlbhodhaa.Ab
open Go
set_option linter.unusedVariables false
set_option linter.unusedSimpArgs false
def vwSl (h : Heap) (m lo len : Nat) : A :=
 match h[m]? with
 | some (some (sz, es)) => if lo + len ≤ es.length then .row false sz (roLL ((es.drop lo).take len)) else .any
 | _ => .any
def vwPtr (h : Heap) (m i j : Nat) : A :=
 match h[m]? with
 | some (some (sz, es)) => if es.length = 0 then .any else .rp sz (roLL es) i j
 | _ => .any
mutual
def vw (h : Heap) : A → A
 | .sl m lo len => vwSl h m lo len
 | .ptr m i j => vwPtr h m i j
 | .agg cs => .agg (vwL h cs)
 | .tup cs => .tup (vwL h cs)
 | .fn f cs => .fn f (vwL h cs)
 | .row own sz es => .row false sz (if own then roLL es else es)
 | .box cs => ro (.box cs)
 | .any => .any
 | .int k n => .int k n
 | .bool b => .bool b
 | .str s => .str s
 | .nils => .nils
 | .nilp => .nilp
 | .rp sz es i j => .rp sz es i j
def vwL (h : Heap) : List A → List A
 | [] => []
 | a :: as => vw h a :: vwL h as
end
mutual
/-- Nothing that leads into the abstract heap. -/
def noRef : A → Bool
 | .sl .. => false
 | .ptr .. => false
 | .agg cs => noRefL cs
 | .tup cs => noRefL cs
 | .fn _ cs => noRefL cs
 | .row own _ es => !own
 | .box _ => false
 | _ => true
def noRefL : List A → Bool
 | [] => true
 | a :: as => noRef a && noRefL as
end
mutual
/-- Nothing that is lent. -/
def noLoan : A → Bool
 | .row own _ es => own && noLoanLL es
 | .rp .. => false
 | .box cs => noLoanL cs
 | .agg cs => noLoanL cs
 | .tup cs => noLoanL cs
 | .fn _ cs => noLoanL cs
 | _ => true
def noLoanL : List A → Bool
 | [] => true
 | a :: as => noLoan a && noLoanL as
def noLoanLL : List (List A) → Bool
 | [] => true
 | e :: es => noLoanL e && noLoanLL es
end
section view
variable {S0 : Nat → Prop} {st : St} {a : Act} {w : World} {φ : List (Option Loc)} {fs : List Nat}
theorem roLL_uni {es : List (List A)} {sz : Nat} (hu : ∀ e ∈ es, e.length = sz) : ∀ e ∈ roLL es, e.length = sz := by
 rw [roLL_map]; intro e he; obtain ⟨x, hx, rfl⟩ := List.mem_map.1 he; rw [roL_map, List.length_map]; exact hu x hx
theorem roLL_len (es : List (List A)) : (roLL es).length = es.length := by rw [roLL_map]; simp
theorem blkGet (h : SRel S0 st a w φ fs) {m sz : Nat} {es : List (List A)} (hm : st.heap[m]? = some (some (sz, es))) (hne : es ≠ []) :
  ∃ (l : Loc) (arr : Array Value) (ty : TypeId) (vs : List Value) (f0 : List Nat), φ[m]? = some (some l) ∧ l.sz = sz ∧ w.heap[l.g]? = some (.cells arr ty (0, 0)) ∧ l.g ∈ fs ∧ (∀ b ∈ f0, b ∈ fs) ∧ (∀ e ∈ es, e.length = sz) ∧
   RelL w (Sof S0 fs) φ es.flatten vs f0 ∧ (∀ (k : Nat) (v : Value), vs[k]? = some v → arr[l.off + k]? = some v) ∧ es.length ≤ l.cap := by
 obtain ⟨lo, f1, fb, f2, q1, q2, q3, q4⟩ := h.heap.at_ hm
 cases lo with
 | none => exact q2.elim
 | some l =>
  obtain ⟨hz, q2⟩ := q2
  rcases q2 with q2 | ⟨arr, ty, vs, f0, rfl, r1, r2, r3, r4, r5, r6⟩
  ·exact absurd q2.2.1 hne
  ·exact ⟨l, arr, ty, vs, f0, q1, hz, r1, by rw [q3]; simp, fun b hb => by rw [q3]; simp [hb], r3, r4, r5, r6⟩
theorem loc_eq {m : Nat} {l l' : Loc} (h : φ[m]? = some (some l)) (h' : φ[m]? = some (some l')) : l' = l := by rw [h] at h'; injection h' with e; injection e with e; exact e.symm
theorem vwSl_rel (h : SRel S0 st a w φ fs) {m lo len : Nat} {v : Value} (hv : Rel w (Sof S0 fs) φ (.sl m lo len) v []) : Rel w S0 [] (vwSl st.heap m lo len) v [] := by
  unfold vwSl
  split
  · rename_i sz es hm
    split
    · rename_i hle
      obtain ⟨ad, c, rfl, hc, l, hml, had⟩ := sl_form hv
      have hl : (roLL ((es.drop lo).take len)).length = len := by rw [roLL_len]; simp; omega
      by_cases hz : len = 0
      · subst hz
        have : (es.drop lo).take 0 = [] := by simp
        rw [this]
        exact .ro0 _ _ _
      · have hne : es ≠ [] := by rintro rfl; simp at hle; omega
        obtain ⟨l', arr, ty, vs, f0, q1, q2, q3, q4, q4', q5, q6, q7, q8⟩ := blkGet h hm hne
        have := loc_eq hml q1
        subst this
        obtain ⟨g1, g2, g3, e1, _, r2, _⟩ := q6.window (lo * sz) (len * sz)
        have hfl : (es.flatten.drop (lo * sz)).take (len * sz) = ((es.drop lo).take len).flatten := by rw [flat_drop q5, flat_take (uni_drop q5 lo)]
        rw [hfl] at r2
        rw [had (by omega)]
        have key : Rel w S0 [] (.row false sz (roLL ((es.drop lo).take len))) (.slice (some ⟨l'.g, l'.off + lo * l'.sz, none⟩) (roLL ((es.drop lo).take len)).length c) [] := by
         refine .ro (ad := ⟨l'.g, l'.off + lo * l'.sz, none⟩) (roLL_uni (uni_take (uni_drop q5 lo) len)) (by rw [roLL_flatten]; exact RelL.ro_of (fun b hb => .inl hb) r2 (fun b hb => h.apart b (q4' b (by rw [e1]; simp [hb])))) (fun k u hk => ⟨?_, h.apart _ q4⟩) (by rw [hl]; exact hc)
         have hk2 : vs[lo * sz + k]? = some u := by
           by_cases hlt : k < len * sz
           · rwa [List.getElem?_take_of_lt hlt, List.getElem?_drop] at hk
           · rw [List.getElem?_eq_none (by simp; omega)] at hk; cases hk
         rw [add_mk, q2]
         simp only [World.cell?, q3]
         rw [← q7 _ _ hk2]
         simp [Nat.add_assoc]
        rw [hl] at key
        exact key
    · exact .any _
  · exact .any _
theorem vwPtr_rel (h : SRel S0 st a w φ fs) {m i j : Nat} {v : Value} (hv : Rel w (Sof S0 fs) φ (.ptr m i j) v []) : Rel w S0 [] (vwPtr st.heap m i j) v [] := by
 unfold vwPtr
 split
 ·rename_i sz es hm
  split
  ·exact .any _
  ·rename_i hne
   obtain ⟨l, arr, ty, vs, f0, q1, q2, q3, q4, q4', q5, q6, q7, q8⟩ := blkGet h hm (by rintro rfl; simp at hne)
   cases hv with
   | ptr hml =>
    rename_i l2
    have := loc_eq q1 hml
    subst this
    have := Rel.rp (w := w) (S := S0) (φ := []) (es := roLL es) (ad := ⟨l2.g, l2.off, none⟩) (i := i) (j := j) (roLL_uni q5) (by rw [roLL_flatten]; exact RelL.ro_of (fun b hb => .inl hb) q6 (fun b hb => h.apart b (q4' b hb))) (fun k u hk => ⟨by rw [add_mk]; simp only [World.cell?, q3]; rw [← q7 _ _ hk]; simp, h.apart _ q4⟩)
    rw [add_mk, ← q2] at this
    rw [← q2]
    exact this
 ·exact .any _
mutual
theorem vw_rel (h : SRel S0 st a w φ fs) {x : A} {v : Value} (hv : Rel w (Sof S0 fs) φ x v []) : Rel w S0 [] (vw st.heap x) v [] := by
 cases x with
 | sl m lo len => exact vwSl_rel h hv
 | ptr m i j => exact vwPtr_rel h hv
 | agg cs => cases hv with | agg hr => exact .agg (vwL_rel h hr)
 | tup cs => cases hv with | tup hr => exact .tup (vwL_rel h hr)
 | fn f cs => cases hv with | fn hr => exact .fn (vwL_rel h hr)
 | row own sz es =>
  cases own with
  | true =>
   generalize hf : ([] : List Nat) = f at hv
   cases hv with
   | own => cases hf
   | own0 sz a => exact .ro0 _ _ _
  | false =>
   cases hv with
   | ro hu hr hc hl => exact .ro hu (hr.frame (Fr.refl (fun _ => False) w) (fun b hb => .inl (.inl hb)) (fun _ h => h.elim) (Ext.refl _) (by simp)) (fun k v hk => ⟨(hc k v hk).1, fun hs => (hc k v hk).2 (.inl hs)⟩) hl
   | ro0 sz a c => exact .ro0 _ _ _
 | box cs => cases hv
 | any => exact .any _
 | int k n => cases hv; exact .int _ _
 | bool b => cases hv; exact .bool _
 | str s => cases hv; exact .str _
 | nils => cases hv; exact .nils
 | nilp => cases hv; exact .nilp
 | rp sz es i j => cases hv with | rp hu hr hc => exact .rp hu (hr.frame (Fr.refl (fun _ => False) w) (fun b hb => .inl (.inl hb)) (fun _ h => h.elim) (Ext.refl _) (by simp)) (fun k v hk => ⟨(hc k v hk).1, fun hs => (hc k v hk).2 (.inl hs)⟩)
theorem vwL_rel (h : SRel S0 st a w φ fs) {xs : List A} {vs : List Value} (hv : RelL w (Sof S0 fs) φ xs vs []) : RelL w S0 [] (vwL st.heap xs) vs [] := by
 cases xs with
 | nil => cases hv; exact .nil
 | cons x xs =>
  generalize hf : ([] : List Nat) = f at hv
  cases hv with
  | cons h1 h2 =>
   obtain ⟨e1, e2⟩ := List.append_eq_nil_iff.1 hf.symm
   subst e1 e2
   exact .cons (f := []) (fs := []) (vw_rel h h1) (vwL_rel h h2)
end
end view
end Go.Proofs.Ytimgfinlbhodhaa.Ab
namespace Go.Proofs.Ytimgfinlbhodhaa.Ab
open Go
set_option linter.unusedVariables false
set_option linter.unusedSimpArgs false
mutual
/-- Memory of its own becomes blocks of the abstract heap, from place n on. -/
def matA (n : Nat) : A → A × Heap
 | .row true sz es => (.sl n 0 es.length, [some (sz, es)])
 | .box cs => (.ptr n 0 0, [some (cs.length, [cs])])
 | .agg cs => (.agg (matL n cs).1, (matL n cs).2)
 | .tup cs => (.tup (matL n cs).1, (matL n cs).2)
 | .row false sz es => (.row false sz es, [])
 | .fn f cs => (.fn f cs, [])
 | .any => (.any, [])
 | .int k x => (.int k x, [])
 | .bool b => (.bool b, [])
 | .str s => (.str s, [])
 | .nils => (.nils, [])
 | .nilp => (.nilp, [])
 | .sl m lo len => (.sl m lo len, [])
 | .ptr m i j => (.ptr m i j, [])
 | .rp sz es i j => (.rp sz es i j, [])
def matL (n : Nat) : List A → List A × Heap
 | [] => ([], [])
 | a :: as => ((matA n a).1 :: (matL (n + (matA n a).2.length) as).1, (matA n a).2 ++ (matL (n + (matA n a).2.length) as).2)
end
section
variable {w : World} {S : Nat → Prop}
theorem HRel.append {φ : List (Option Loc)} {h1 h2 : Heap} {l1 l2 : List (Option Loc)} {f1 f2 : List Nat} (H1 : HRel w S φ h1 l1 f1) (H2 : HRel w S φ h2 l2 f2) : HRel w S φ (h1 ++ h2) (l1 ++ l2) (f1 ++ f2) := by
 induction H1 with
 | nil => exact H2
 | cons h hs ih => rw [List.append_assoc]; exact .cons h ih
theorem Ext.trans {a b c : List (Option Loc)} (h : Ext a b) (k : Ext b c) : Ext a c := fun m l hm => k m l (h m l hm)
theorem Ext.at_ {φb ls φ' : List (Option Loc)} {l : Loc} (h : Ext (φb ++ ls) φ') (hl : ls[0]? = some (some l)) : φ'[φb.length]? = some (some l) :=
 h _ _ (by rw [List.getElem?_append_right (Nat.le_refl _), Nat.sub_self]; exact hl)
mutual
theorem matA_rel {a : A} {v : Value} {f : List Nat} (h : Rel w S [] a v f) (φb : List (Option Loc)) :
    ∃ ls f', ls.length = (matA φb.length a).2.length ∧ HRel w S [] (matA φb.length a).2 ls f' ∧ f'.Perm f ∧ ∀ φ', Ext (φb ++ ls) φ' → Rel w S φ' (matA φb.length a).1 v [] := by
  have plain : ∀ {b : A}, matA φb.length b = (b, []) → Rel w S [] b v [] → f = [] → a = b → ∃ ls f', ls.length = (matA φb.length a).2.length ∧ HRel w S [] (matA φb.length a).2 ls f' ∧ f'.Perm f ∧ ∀ φ', Ext (φb ++ ls) φ' → Rel w S φ' (matA φb.length a).1 v [] := by
    rintro b hb hr rfl rfl
    rw [hb]
    exact ⟨[], [], rfl, .nil, List.Perm.refl _, fun φ' _ => hr.up⟩
  cases a with
  | row own sz es =>
    cases own with
    | false =>
      have hf : f = [] := by cases h <;> rfl
      subst hf
      exact plain rfl h rfl rfl
    | true =>
      cases h with
      | own hh hz hu hr hc hl =>
        rename_i vs g off cap arr ty f0
        refine ⟨[some ⟨g, off, cap, sz⟩], (g :: f0) ++ [], rfl, .cons ⟨rfl, .inr ⟨arr, ty, vs, f0, rfl, hh, hz, hu, hr, hc, hl⟩⟩ .nil, by simp, fun φ' hφ => ?_⟩
        have hat := hφ.at_ (l := ⟨g, off, cap, sz⟩) rfl
        have := Rel.sl (w := w) (S := S) (lo := 0) (len := es.length) (c := cap) (a := some ⟨g, off, none⟩) hat (by simp) hl (fun _ => by simp)
        exact this
      | own0 sz ad =>
        refine ⟨[some ⟨0, 0, 0, sz⟩], [] ++ [], rfl, .cons ⟨rfl, .inl ⟨rfl, rfl, rfl⟩⟩ .nil, by simp, fun φ' hφ => ?_⟩
        exact .sl (hφ.at_ rfl) rfl (Nat.le_refl _) (fun h => absurd h (by omega))
  | box cs =>
    cases h with
    | box hh hz hl hc hr =>
      rename_i vs g off cap arr ty f0
      refine ⟨[some ⟨g, off, cap, cs.length⟩], (g :: f0) ++ [], rfl, .cons ⟨rfl, .inr ⟨arr, ty, vs, f0, rfl, hh, hz, by simp, by simpa using hr, hc, by simpa using hl⟩⟩ .nil, by simp, fun φ' hφ => ?_⟩
      have := Rel.ptr (w := w) (S := S) (i := 0) (j := 0) (hφ.at_ (l := ⟨g, off, cap, cs.length⟩) rfl)
      simpa [matA] using this
  | agg cs =>
    cases h with
    | agg hr =>
      obtain ⟨ls, f', h1, h2, h3, h4⟩ := matL_rel hr φb
      exact ⟨ls, f', h1, h2, h3, fun φ' hφ => .agg (h4 φ' hφ)⟩
  | tup cs =>
    cases h with
    | tup hr =>
      obtain ⟨ls, f', h1, h2, h3, h4⟩ := matL_rel hr φb
      exact ⟨ls, f', h1, h2, h3, fun φ' hφ => .tup (h4 φ' hφ)⟩
  | fn g cs =>
    have hf : f = [] := by cases h; rfl
    subst hf
    exact plain rfl h rfl rfl
  | any => have hf : f = [] := by (cases h; rfl)
           subst hf; exact plain rfl h rfl rfl
  | int k x => have hf : f = [] := by (cases h; rfl)
               subst hf; exact plain rfl h rfl rfl
  | bool b => have hf : f = [] := by (cases h; rfl)
              subst hf; exact plain rfl h rfl rfl
  | str s => have hf : f = [] := by (cases h; rfl)
             subst hf; exact plain rfl h rfl rfl
  | nils => have hf : f = [] := by (cases h; rfl)
            subst hf; exact plain rfl h rfl rfl
  | nilp => have hf : f = [] := by (cases h; rfl)
            subst hf; exact plain rfl h rfl rfl
  | sl m lo len => have hf : f = [] := by (cases h; rfl)
                   subst hf; exact plain rfl h rfl rfl
  | ptr m i j => have hf : f = [] := by (cases h; rfl)
                 subst hf; exact plain rfl h rfl rfl
  | rp sz es i j => have hf : f = [] := by (cases h; rfl)
                    subst hf; exact plain rfl h rfl rfl
theorem matL_rel {as : List A} {vs : List Value} {f : List Nat} (h : RelL w S [] as vs f) (φb : List (Option Loc)) :
  ∃ ls f', ls.length = (matL φb.length as).2.length ∧ HRel w S [] (matL φb.length as).2 ls f' ∧ f'.Perm f ∧ ∀ φ', Ext (φb ++ ls) φ' → RelL w S φ' (matL φb.length as).1 vs [] := by
 cases as with
 | nil => cases h; exact ⟨[], [], rfl, .nil, List.Perm.refl _, fun _ _ => .nil⟩
 | cons a as =>
  cases h with
  | cons h hs =>
   obtain ⟨l1, f1, e1, H1, p1, r1⟩ := matA_rel h φb
   obtain ⟨l2, f2, e2, H2, p2, r2⟩ := matL_rel hs (φb ++ l1)
   have hlen : (φb ++ l1).length = φb.length + (matA φb.length a).2.length := by rw [List.length_append, e1]
   rw [hlen] at e2 H2 r2
   refine ⟨l1 ++ l2, f1 ++ f2, by simp [matL, e1, e2], H1.append H2, p1.append p2, fun φ' hφ => ?_⟩
   rw [← List.append_assoc] at hφ
   exact .cons (f := []) (fs := []) (r1 φ' ((Ext.app _ _).trans hφ)) (r2 φ' hφ)
end
end
def AC (P : Program) (f : FuncId) (args : List A) (res : A) : Prop :=
 ∀ (w : World) (S0 : Nat → Prop) (vs : List Value), (∀ b, S0 b → b < w.heap.size) → RelL w S0 [] args vs [] →
  Calls P f vs.toArray w fun e w' => ∃ v fb, e = .returned v ∧ Rel w' (Sof S0 fb) [] res v fb ∧ fb.Nodup ∧ (∀ b ∈ fb, w.heap.size ≤ b) ∧ Fr (fun _ => False) w w'
section
variable {S0 : Nat → Prop} {st : St} {a : Act} {w : World} {φ : List (Option Loc)} {fs : List Nat}
mutual
theorem noLoan_rel {S S' : Nat → Prop} {x : A} {v : Value} {f : List Nat} (hn : noLoan x = true) (h : Rel w S [] x v f) : Rel w S' [] x v f := by
 cases x with
 | row own sz es =>
  cases own with
  | false => simp [noLoan] at hn
  | true =>
   simp only [noLoan, Bool.true_and] at hn
   cases h with
   | own hh hz hu hr hc hl => exact .own hh hz hu (noLoanLL_rel hn hr) hc hl
   | own0 => exact .own0 _ _
 | box cs => simp only [noLoan] at hn; cases h with | box hh hz hl hc hr => exact .box hh hz hl hc (noLoanL_rel hn hr)
 | agg cs => simp only [noLoan] at hn; cases h with | agg hr => exact .agg (noLoanL_rel hn hr)
 | tup cs => simp only [noLoan] at hn; cases h with | tup hr => exact .tup (noLoanL_rel hn hr)
 | fn g cs => simp only [noLoan] at hn; cases h with | fn hr => exact .fn (noLoanL_rel hn hr)
 | any => cases h; exact .any _
 | int k n => cases h; exact .int _ _
 | bool b => cases h; exact .bool _
 | str s => cases h; exact .str _
 | nils => cases h; exact .nils
 | nilp => cases h; exact .nilp
 | sl m lo len => cases h with | sl hm => simp at hm
 | ptr m i j => cases h with | ptr hm => simp at hm
 | rp sz es i j => simp [noLoan] at hn
theorem noLoanL_rel {S S' : Nat → Prop} {xs : List A} {vs : List Value} {f : List Nat} (hn : noLoanL xs = true) (h : RelL w S [] xs vs f) : RelL w S' [] xs vs f := by
 cases xs with
 | nil => cases h; exact .nil
 | cons x xs => cases h with | cons h hs => simp only [noLoanL, Bool.and_eq_true] at hn; exact .cons (noLoan_rel hn.1 h) (noLoanL_rel hn.2 hs)
theorem noLoanLL_rel {S S' : Nat → Prop} {es : List (List A)} {vs : List Value} {f : List Nat} (hn : noLoanLL es = true) (h : RelL w S [] es.flatten vs f) : RelL w S' [] es.flatten vs f := by
 cases es with
 | nil => cases h; exact .nil
 | cons e es =>
  simp only [noLoanLL, Bool.and_eq_true] at hn
  rw [List.flatten_cons] at h ⊢
  obtain ⟨u1, u2, g1, g2, rfl, rfl, r1, r2⟩ := h.split
  exact (noLoanL_rel hn.1 r1).append (noLoanLL_rel hn.2 r2)
end
theorem SRel.called (h : SRel S0 st a w φ fs) {w' : World} {res : A} {v : Value} {fb : List Nat} (hr : Rel w' (Sof S0 fb) [] res v fb) (hn : fb.Nodup) (hfb : ∀ b ∈ fb, w.heap.size ≤ b) (hw : Fr (fun _ => False) w w')
  (hl : noLoan res = true ∨ Rel w' (Sof (Sof S0 fs) fb) [] res v fb) :
  ∃ φ' fs', SRel S0 { st with heap := st.heap ++ (matA st.heap.length res).2 } a w' φ' fs' ∧ (∀ b ∈ fs', b ∈ fs ∨ w.heap.size ≤ b) ∧ Ext φ φ' ∧ Rel w' (Sof S0 fs') φ' (matA st.heap.length res).1 v [] := by
 have hlen := h.heap.length
 have hr2 : Rel w' (Sof S0 (fs ++ fb)) [] res v fb := by
  rcases hl with hl | hl
  ·exact noLoan_rel hl hr
  ·refine hl.frame (Fr.refl (fun _ => False) w') (fun b hb => .inl ?_) (fun _ h => h.elim) (Ext.refl _) (fun _ _ h => h)
   rcases hb with hb | hb
   ·exact .inl (.inl hb)
   ·rcases List.mem_append.1 hb with hb | hb
    ·exact .inl (.inr hb)
    ·exact .inr hb
 obtain ⟨ls, f', e1, H2, hp, hm⟩ := matA_rel hr2 φ
 rw [hlen] at e1 H2 hm
 have hnd : (fs ++ f').Nodup := by
  refine List.nodup_append.2 ⟨h.nodup, hp.symm.nodup hn, ?_⟩
  intro x hx y hy e
  subst e
  have h1 := h.heap.lt x hx
  have h2 := hfb x (hp.mem_iff.1 hy)
  omega
 have hsub : ∀ b, b ∈ fs ++ f' → b ∈ fs ∨ w.heap.size ≤ b := fun b hb => (List.mem_append.1 hb).imp id (fun hb => hfb b (hp.mem_iff.1 hb))
 have hS : ∀ b, Sof S0 (fs ++ f') b → Sof S0 fs b ∨ w.heap.size ≤ b := fun b hb => hb.elim (fun h => .inl (.inl h)) (fun hb => (hsub b hb).imp .inr id)
 have hS2 : ∀ b, Sof S0 (fs ++ f') b → Sof S0 (fs ++ fb) b := fun b hb => hb.imp id (fun hb => by
  rcases List.mem_append.1 hb with hb | hb
  ·exact List.mem_append.2 (.inl hb)
  ·exact List.mem_append.2 (.inr (hp.mem_iff.1 hb)))
 refine ⟨φ ++ ls, fs ++ f', h.to hw (fun _ h => h.elim) hsub (Ext.app φ ls) hnd ?_, hsub, Ext.app φ ls, ?_⟩
 ·refine HRel.append (h.heap.frame hw hS (fun _ h => h.elim) (Ext.app φ ls) (fun _ _ h => h)) ?_
  exact H2.frame (Fr.refl (fun _ => False) w') (fun b hb => .inl (hS2 b hb)) (fun _ h => h.elim) (fun m l h => by simp at h) (fun _ _ h => h)
 ·exact (hm (φ ++ ls) (Ext.refl _)).frame (Fr.refl (fun _ => False) w') (fun b hb => .inl (hS2 b hb)) (fun _ h => h.elim) (Ext.refl _) (fun _ _ h => h)
end
end Go.Proofs.Ytimgfinlbhodhaa.Ab
namespace Go.Proofs.Ytimgfinlbhodhaa.Ab
open Go
set_option linter.unusedVariables false
set_option linter.unusedSimpArgs false
def cpy (es : List (List A)) (lo n : Nat) (ys : List (List A)) : List (List A) := es.take lo ++ (ys.take n ++ es.drop (lo + n))
section
variable {P : Program} {T : Tab} {S0 : Nat → Prop} {st : St} {a : Act} {w : World} {φ : List (Option Loc)} {fs : List Nat}
theorem heap_same {h : Heap} {m : Nat} {x : Option Blk} (hm : h[m]? = some x) : h.set m x = h := by
 obtain ⟨hl, e⟩ := List.getElem?_eq_some_iff.1 hm
 rw [← e]; exact List.set_getElem_self hl
theorem acopy_run (hT : T.ok P) (h : SRel S0 st a w φ fs) {o : Oper} {d s : Operand} {t t' e : Nat} {i : TI} {m lo len : Nat} {es ys : List (List A)}
  (ho : o.op = .call { callee := .builtin .copy, args := #[d, s], argTypes := #[t, t'] }) (hk : (T t).map TI.kind = some (TK.slice e)) (hi : T e = some i) (h1 : i.size = 1)
  (hd : ev st.env d = .sl m lo len) (hm : st.heap[m]? = some (some (1, es))) (hle : lo + len ≤ es.length) (hs : srcOf st.heap 1 (ev st.env s) = some ys) (hc : ys.all (fun y => y.all copyable) = true) :
  ∃ w' fs', (execOp a.eval o).run P w = .ok (.value (.int .i64 ((min ys.length len : Nat) : Int))) w' ∧ SRel S0 { st with heap := st.heap.set m (some (1, cpy es lo (min ys.length len) ys)) } a w' φ fs' ∧ Fr (fun g => g ∈ fs) w w' ∧ fs'.Sublist fs := by
 obtain ⟨it, hit, hkk, hft⟩ := kind_some hT hk
 have hu := under_slice hft hkk
 obtain ⟨d0, inf, z, q1, q2, q3, q4, q5, q6, q7, q8⟩ := fits_info (hT _ _ hi)
 have hsz : (P.info? e).map (·.size) = some 1 := by rw [q2, Option.map_some, q4, h1]
 obtain ⟨ax, cx, us, fy, ev2, hc2, huy, hry, hcy, hny⟩ := src_run h hs (ev_rel h s)
 obtain ⟨rfl, hone⟩ := copy_fp hry hc
 have hul := hry.length
 rw [flat_len huy, Nat.mul_one] at hul
 have hdv := ev_rel h d
 rw [hd] at hdv
 generalize hde : a.eval d = dv at hdv
 cases hdv with
 | sl hml hlo hlen had =>
  rename_i c ad l
  unfold execOp
  rw [ho]
  simp only [resolve, invoke, builtin, Sem.run_bind, Sem.run_pure, Result.andThen_ok, List.map_toArray, List.map_cons, List.map_nil, hde, ev2]
  by_cases hn : min ys.length len = 0
  ·have hr := run_copy_none (P := P) w t t' o.type e ad ax len c ys.length cx hu hsz (by show min ys.length len = 0; exact hn)
   rw [hr, hn]
   refine ⟨w, fs, rfl, ?_, Fr.refl _ w, List.Sublist.refl _⟩
   have : cpy es lo 0 ys = es := by simp [cpy]
   rw [this, heap_same hm]
   exact h
  ·have hne : es ≠ [] := by rintro rfl; simp at hle; omega
   obtain ⟨l', arr, ty, vs, f0, p1, p2, p3, p4, p5, p6, p7, p8, p9⟩ := h.setBlk hm hne
   have : l = l' := by rw [p1] at hml; injection hml with e1; injection e1 with e1; exact e1.symm
   subst this
   have hadd := had (by omega)
   subst hadd
   rw [p2, Nat.mul_one]
   generalize hnn : min ys.length len = n at hn ⊢
   have hn1 : n ≤ ys.length := by omega
   have hn2 : n ≤ len := by omega
   obtain ⟨y, hy⟩ : ∃ y, ax = some y := by
    cases ax with
    | some y => exact ⟨y, rfl⟩
    | none => have := hny rfl; rw [this] at hul; simp only [List.length_nil] at hul; omega
   subst hy
   have hul2 : (us.take n).length = n := by rw [List.length_take]; omega
   have hcs : l.cap = arr.size - l.off := by omega
   have hr := run_copy_row P w t t' o.type e l.g (l.off + lo) len c y ys.length cx arr ty (us.take n) hu hsz p3 (by rw [hul2, ← hnn])
    (fun j v hj => hcy y rfl j v (by
     by_cases hjn : j < n
     ·rwa [List.getElem?_take_of_lt hjn] at hj
     ·rw [List.getElem?_eq_none (by rw [List.length_take]; omega)] at hj; cases hj)) (by rw [List.length_take]; omega) (fun v hv => hone v (List.mem_of_mem_take hv))
   rw [hr, hul2]
   obtain ⟨f1, f2, f3, e1, g1, g2, g3⟩ := p6.window lo n
   have hvl := p6.length
   rw [flat_len p5, Nat.mul_one] at hvl
   have hft : ∀ (k : Nat) (l : List (List A)), (∀ e ∈ l, e.length = 1) → l.flatten.take k = (l.take k).flatten := fun k l hl => by have := flat_take hl k; rwa [Nat.mul_one] at this
   have hfd : ∀ (k : Nat) (l : List (List A)), (∀ e ∈ l, e.length = 1) → l.flatten.drop k = (l.drop k).flatten := fun k l hl => by have := flat_drop hl k; rwa [Nat.mul_one] at this
   have hflat : (cpy es lo n ys).flatten = es.flatten.take lo ++ (ys.flatten.take n ++ (es.flatten.drop lo).drop n) := by
    unfold cpy
    rw [List.flatten_append, List.flatten_append, hft _ _ p5, hft _ _ huy, List.drop_drop, hfd _ _ p5]
   obtain ⟨fs', s1, s2, s3⟩ := p9 (arr.toList.take (l.off + lo) ++ us.take n ++ arr.toList.drop (l.off + lo + (us.take n).length)).toArray (cpy es lo n ys) (vs.take lo ++ (us.take n ++ (vs.drop lo).drop n)) (f1 ++ ([] ++ f3))
    (by rw [e1]; exact (List.Sublist.refl f1).append ((List.nil_sublist f2).append (List.Sublist.refl f3)))
    (by
     intro x hx
     unfold cpy at hx
     rcases List.mem_append.1 hx with hx | hx
     ·exact p5 x (List.mem_of_mem_take hx)
     ·rcases List.mem_append.1 hx with hx | hx
      ·exact huy x (List.mem_of_mem_take hx)
      ·exact p5 x (List.mem_of_mem_drop hx))
    (by rw [hflat]; exact g1.append ((hry.take n).append (f := []) g3))
    (by
     intro k v hk
     have := seg_get arr.toList (us.take n) vs l.off lo n hul2 (by simp; omega) (by simpa using p7) (by omega) k v hk
     rw [hul2]
     simpa using this)
    (by simp; omega) (by unfold cpy; simp; omega)
   rw [hul2] at s1
   refine ⟨_, fs', rfl, s1, ?_, s2⟩
   exact (setRow_fr w l.g _).mono (fun b e => by rw [e]; exact s3)
end
def acopy (T : Tab) (env : List (Nat × A)) (h : Heap) : Op → Option (Nat × Blk × Nat)
 | .call c => match c.callee, c.args.toList, c.argTypes.toList with
  | .builtin .copy, [d, s], [t, t'] => match (T t).map TI.kind with
   | some (TK.slice e) => match T e with
    | some i => match ev env d, srcOf h 1 (ev env s) with
     | .sl m lo len, some ys => match h[m]? with
      | some (some (sz, es)) => if sz = 1 ∧ i.size = 1 ∧ lo + len ≤ es.length ∧ ys.all (fun y => y.all copyable) = true then some (m, (1, cpy es lo (min ys.length len) ys), min ys.length len) else none
      | _ => none
     | _, _ => none
    | none => none
   | _ => none
  | _, _, _ => none
 | _ => none
theorem acopy_run2 {P : Program} {T : Tab} {S0 : Nat → Prop} {st : St} {a : Act} {w : World} {φ : List (Option Loc)} {fs : List Nat} (hT : T.ok P) (h : SRel S0 st a w φ fs) {o : Oper} {m n : Nat} {b : Blk} (hv : acopy T st.env st.heap o.op = some (m, b, n)) :
  ∃ w' fs', (execOp a.eval o).run P w = .ok (.value (.int .i64 (n : Int))) w' ∧ SRel S0 { st with heap := st.heap.set m (some b) } a w' φ fs' ∧ Fr (fun g => g ∈ fs) w w' ∧ fs'.Sublist fs := by
 cases hop : o.op <;> rw [hop] at hv <;> simp only [acopy, reduceCtorEq] at hv
 case call c =>
  obtain ⟨callee, args, argTypes⟩ := c
  simp only at hv
  split at hv
  ·rename_i d s t t' h1 h2
   obtain rfl : args = #[d, s] := by apply Array.ext'; simpa using h1
   obtain rfl : argTypes = #[t, t'] := by apply Array.ext'; simpa using h2
   split at hv
   ·rename_i e hk
    split at hv
    ·rename_i i hi
     split at hv
     ·rename_i m' lo len ys hd hs
      split at hv
      ·rename_i sz es hm
       split at hv
       ·rename_i hc
        obtain ⟨rfl, hc1, hc2, hc3⟩ := hc
        simp only [Option.some.injEq, Prod.mk.injEq] at hv
        obtain ⟨rfl, rfl, rfl⟩ := hv
        exact acopy_run hT h hop hk hi hc1 hd hm hc2 hs hc3
       ·cases hv
      ·cases hv
     ·cases hv
    ·cases hv
   ·cases hv
  ·cases hv
end Go.Proofs.Ytimgfinlbhodhaa.Ab
namespace Go.Proofs.Ytimgfinlbhodhaa.Ab
open Go
set_option linter.unusedVariables false
set_option linter.unusedSimpArgs false
inductive It where
 | code (c : Code)
 | ops (all : Array Oper) (l : List Oper)
 | blk (id : Nat)
 | upto (J : Act → World → Prop)
def cont (P : Program) : List It → (Exit → Act → World → Prop) → Exit → Act → World → Prop
 | [], Q => Q
 | .code c :: k, Q => Exit.then (fun a w => c.wp P (cont P k Q) a w) (cont P k Q)
 | .ops all l :: k, Q => Exit.then (fun a w => wpList P all (cont P k Q) l a w) (cont P k Q)
 | .blk id :: k, Q => Exit.inBlock id (cont P k Q)
 | .upto J :: k, Q => Exit.then J (cont P k Q)
structure Cx where
 P : Program
 T : Tab
 S0 : Nat → Prop
 w0 : World
 fs0 : List Nat
 φ0 : List (Option Loc)
 Q : Exit → Act → World → Prop
def Bnd (c : Cx) (w : World) (φ : List (Option Loc)) (fs : List Nat) : Prop := Fr (fun g => g ∈ c.fs0) c.w0 w ∧ (∀ b ∈ fs, b ∈ c.fs0 ∨ c.w0.heap.size ≤ b) ∧ Ext c.φ0 φ
def G (c : Cx) (k : List It) (st : St) : Prop := ∀ a w φ fs, SRel c.S0 st a w φ fs → Bnd c w φ fs → cont c.P k c.Q .normal a w
section
variable {c : Cx} {k : List It} {st : St}
theorem Bnd.step {w w' : World} {φ φ' : List (Option Loc)} {fs fs' : List Nat} {T : Nat → Prop} (h : Bnd c w φ fs) (hw : Fr T w w') (hT : ∀ b, T b → b ∈ fs) (hs : ∀ b ∈ fs', b ∈ fs ∨ w.heap.size ≤ b) (hφ : Ext φ φ') : Bnd c w' φ' fs' :=
 ⟨h.1.trans hw (fun x hx => h.2.1 x (hT x hx)), fun b hb => (hs b hb).elim (h.2.1 b) (fun hb => .inr (Nat.le_trans h.1.size hb)), h.2.2.trans hφ⟩
theorem G.skip (h : G c k st) : G c (.code .skip :: k) st := fun a w φ fs hs hb => wp_skip (h a w φ fs hs hb)
theorem G.seq {x y : Code} (h : G c (.code x :: .code y :: k) st) : G c (.code (.seq x y) :: k) st := fun a w φ fs hs hb => wp_seq (h a w φ fs hs hb)
theorem G.block {id : Nat} {b : Code} (h : G c (.code b :: .blk id :: k) st) : G c (.code (.block id b) :: k) st := fun a w φ fs hs hb => wp_block (h a w φ fs hs hb)
theorem G.blk {id : Nat} (h : G c k st) : G c (.blk id :: k) st := fun a w φ fs hs hb => h a w φ fs hs hb
def popTo (id : Nat) : List It → Option (List It)
 | [] => none
 | .blk id' :: k => if id' = id then some k else popTo id k
 | _ :: k => popTo id k
theorem cont_exit {P : Program} {Q : Exit → Act → World → Prop} {id : Nat} {k k' : List It} (h : popTo id k = some k') {a : Act} {w : World} (hk : cont P k' Q .normal a w) : cont P k Q (.exit id) a w := by
 induction k with
 | nil => cases h
 | cons i k ih =>
  cases i with
  | code c => exact ih h
  | ops all l => exact ih h
  | upto J => exact ih h
  | blk id' =>
   simp only [popTo] at h
   split at h
   ·rename_i e
    injection h with h
    subst h e
    simpa [cont, Exit.inBlock] using hk
   ·rename_i e
    have := ih h
    have e' : ¬ id = id' := fun x => e x.symm
    simp only [cont, Exit.inBlock]
    first
     | (rw [if_neg e']; exact this)
     | (rw [if_neg e]; exact this)
     | (simp [e, e']; exact this)
theorem G.exit {id : Nat} {k' : List It} (h : popTo id k = some k') (hk : G c k' st) : G c (.code (.exit id) :: k) st := fun a w φ fs hs hb => wp_exit (cont_exit h (hk a w φ fs hs hb))
theorem cont_ret {P : Program} {Q : Exit → Act → World → Prop} {k : List It} {a : Act} {w : World} (h : Q .ret a w) : cont P k Q .ret a w := by
 induction k with
 | nil => exact h
 | cons i k ih => cases i <;> exact ih
theorem G.ret (h : ∀ a w φ fs, SRel c.S0 st a w φ fs → Bnd c w φ fs → c.Q .ret a w) : G c (.code .ret :: k) st := fun a w φ fs hs hb => wp_ret (cont_ret (h a w φ fs hs hb))
theorem G.if_ {o : Operand} {x y : Code} {t : Bool} (he : ev st.env o = .bool t) (h1 : t = true → G c (.code x :: k) st) (h2 : t = false → G c (.code y :: k) st) : G c (.code (.cond o x y) :: k) st := by
 intro a w φ fs hs hb
 have hv := ev_rel hs o
 rw [he] at hv
 generalize hq : a.eval o = v at hv
 cases hv
 exact wp_cond_split hq (fun e => h1 e a w φ fs hs hb) (fun e => h2 e a w φ fs hs hb)
theorem G.region {id : Nat} {ops : Array Oper} (h : G c (.ops ops ops.toList :: k) st) : G c (.code (.region id ops false) :: k) st := fun a w φ fs hs hb => wp_region_list (h a w φ fs hs hb)
theorem G.opsNil {all : Array Oper} (h : G c k st) : G c (.ops all [] :: k) st := fun a w φ fs hs hb => h a w φ fs hs hb
theorem G.forget {env : List (Nat × A)} (he : ∀ i, look env i = .any ∨ look env i = look st.env i) (h : G c k { st with env := env }) : G c k st := by
 intro a w φ fs hs hb
 refine h a w φ fs ⟨hs.defers, hs.size, fun i => ?_, hs.heap, hs.nodup, hs.apart, hs.low⟩ hb
 rcases he i with e | e
 ·simp only; rw [e]; exact .any _
 ·simp only; rw [e]; exact hs.env i
end
def St.putO (st : St) (d : Option Nat) (x : A) : Option St :=
 match d with
 | some d => if d < st.n then some (st.put d x) else none
 | none => some st
def withH (st : St) (h : Heap) : St := { st with heap := h }
def step1 (T : Tab) (st : St) (o : Oper) : Option St :=
 match o.op with
 | .alloc _ | .box _ _ | .buildSlice _ _ _ | .makeSlice _ _ _ => match anew T st.env o.op with
  | some (b, true) => (withH st (hput st.heap st.heap.length b)).putO o.dst (.sl st.heap.length 0 b.2.length)
  | some (b, false) => (withH st (hput st.heap st.heap.length b)).putO o.dst (.ptr st.heap.length 0 0)
  | none => none
 | .store _ _ _ => match astore T st.env st.heap o.op with
  | some (m, b) => (withH st (st.heap.set m (some b))).putO o.dst .any
  | none => none
 | .call { callee := .builtin .append, .. } => match aappend T st.env st.heap o.op with
  | some (b, k) => (withH st (hput (hkill st.heap k) st.heap.length b)).putO o.dst (.sl st.heap.length 0 b.2.length)
  | none => none
 | .call { callee := .builtin .copy, .. } => match acopy T st.env st.heap o.op with
  | some (m, b, n) => (withH st (st.heap.set m (some b))).putO o.dst (.int .i64 (n : Int))
  | none => none
 | op => match aval1 T st.env st.heap op with
  | some x => st.putO o.dst x
  | none => none
section
variable {c : Cx} {k : List It} {st st' : St} {all : Array Oper} {o : Oper} {l : List Oper}
theorem SRel.putO {S0 : Nat → Prop} {st st' : St} {a : Act} {w : World} {φ : List (Option Loc)} {fs : List Nat} (h : SRel S0 st a w φ fs) {x : A} {v : Value} (hv : Rel w (Sof S0 fs) φ x v []) {d : Option Nat} (hp : st.putO d x = some st') :
  SRel S0 st' (a.put d v) w φ fs := by
 cases d with
 | none => simp [St.putO] at hp; subst hp; simpa [Act.put] using h
 | some d =>
  simp only [St.putO] at hp
  split at hp
  ·rename_i hd; injection hp with hp; subst hp; exact h.put hv hd
  ·cases hp
theorem step1_run {P : Program} {T : Tab} (hT : T.ok P) {S0 : Nat → Prop} {a : Act} {w : World} {φ : List (Option Loc)} {fs : List Nat} (h : SRel S0 st a w φ fs) (hs : step1 T st o = some st') :
  ∃ (nx : Next) (w' : World) (φ' : List (Option Loc)) (fs' : List Nat) (v : Value), (execOp a.eval o).run P w = .ok nx w' ∧ (nx = .value v ∨ (nx = .skip ∧ v = undef)) ∧ SRel S0 st' (a.put o.dst v) w' φ' fs' ∧ Fr (fun g => g ∈ fs) w w' ∧ (∀ b ∈ fs', b ∈ fs ∨ w.heap.size ≤ b) ∧ Ext φ φ' := by
 have hlen := h.heap.length
 have plain : (match aval1 T st.env st.heap o.op with | some x => st.putO o.dst x | none => none) = some st' → ∃ (nx : Next) (w' : World) (φ' : List (Option Loc)) (fs' : List Nat) (v : Value), (execOp a.eval o).run P w = .ok nx w' ∧ (nx = .value v ∨ (nx = .skip ∧ v = undef)) ∧ SRel S0 st' (a.put o.dst v) w' φ' fs' ∧ Fr (fun g => g ∈ fs) w w' ∧ (∀ b ∈ fs', b ∈ fs ∨ w.heap.size ≤ b) ∧ Ext φ φ' := by
  intro hp
  split at hp
  ·rename_i x hx
   obtain ⟨v, h1, h2⟩ := aval1_run hT h hx
   exact ⟨_, w, φ, fs, v, h1, .inl rfl, h.putO h2 hp, Fr.refl _ w, fun b hb => .inl hb, Ext.refl φ⟩
  ·cases hp
 have new : ∀ (hq : (match anew T st.env o.op with
   | some (b, true) => (withH st (hput st.heap st.heap.length b)).putO o.dst (.sl st.heap.length 0 b.2.length)
   | some (b, false) => (withH st (hput st.heap st.heap.length b)).putO o.dst (.ptr st.heap.length 0 0)
   | none => none) = some st'), ∃ (nx : Next) (w' : World) (φ' : List (Option Loc)) (fs' : List Nat) (v : Value), (execOp a.eval o).run P w = .ok nx w' ∧ (nx = .value v ∨ (nx = .skip ∧ v = undef)) ∧ SRel S0 st' (a.put o.dst v) w' φ' fs' ∧ Fr (fun g => g ∈ fs) w w' ∧ (∀ b ∈ fs', b ∈ fs ∨ w.heap.size ≤ b) ∧ Ext φ φ' := by
  intro hq
  have hf : hfree st.heap φ st.heap.length := .inl rfl
  cases hn : anew T st.env o.op with
  | none => rw [hn] at hq; cases hq
  | some r =>
   obtain ⟨⟨sz, es⟩, sl⟩ := r
   obtain ⟨arr, ty, h1, h2, h3, h4, h5⟩ := anew_run (P := P) hT h hn
   obtain ⟨fs', g1, g2, g3, g4, g5⟩ := h.newBlk hf (ty := ty) (sz := sz) (cap := es.length) h2 h3 (fun k v hk => by simpa using hk) h4 (Nat.le_refl _)
   cases sl with
   | true =>
    rw [hn] at hq
    refine ⟨_, _, _, fs', _, h1, .inl rfl, g1.putO ?_ hq, g2.mono (fun _ h => h.elim), g3, g4⟩
    have := Rel.sl (w := w.alloc (.cells arr ty)) (S := Sof S0 fs') (lo := 0) (len := es.length) (c := es.length) (a := some ⟨w.heap.size, 0, none⟩) g5 (by simp) (Nat.le_refl _) (fun _ => by simp)
    simpa using this
   | false =>
    rw [hn] at hq
    refine ⟨_, _, _, fs', _, h1, .inl rfl, g1.putO ?_ hq, g2.mono (fun _ h => h.elim), g3, g4⟩
    have := Rel.ptr (w := w.alloc (.cells arr ty)) (S := Sof S0 fs') (i := 0) (j := 0) g5
    simpa using this
 unfold step1 at hs
 split at hs
 ·exact new hs
 ·exact new hs
 ·exact new hs
 ·exact new hs
 ·split at hs
  ·rename_i m b hv
   obtain ⟨w', fs', h1, h2, h3, h4⟩ := astore_run hT h hv
   exact ⟨_, w', φ, fs', undef, h1, .inr ⟨rfl, rfl⟩, h2.putO (.any _) hs, h3, fun b hb => .inl (h4.subset hb), Ext.refl φ⟩
  ·cases hs
 ·split at hs
  ·rename_i b kk hv
   obtain ⟨sz, es⟩ := b
   obtain ⟨v, w', φ', fs', h1, h2, h3, h4, h5, h6⟩ := aappend_run hT h (.inl rfl) hv
   exact ⟨_, w', φ', fs', v, h1, .inl rfl, h2.putO h6 hs, h3, h4, h5⟩
  ·cases hs
 ·split at hs
  ·rename_i m b n hv
   obtain ⟨w', fs', h1, h2, h3, h4⟩ := acopy_run2 hT h hv
   exact ⟨_, w', φ, fs', _, h1, .inl rfl, SRel.putO h2 (.int _ _) hs, h3, fun b hb => .inl (h4.subset hb), Ext.refl φ⟩
  ·cases hs
 ·exact plain hs
theorem G.op (hT : c.T.ok c.P) (hg : o.guard = none) (hs : step1 c.T st o = some st') (h : G c (.ops all l :: k) st') : G c (.ops all (o :: l) :: k) st := by
 intro a w φ fs hr hb
 obtain ⟨nx, w', φ', fs', v, h1, h2, h3, h4, h5, h6⟩ := step1_run hT hr hs
 have hn := h (a.put o.dst v) w' φ' fs' h3 (hb.step h4 (fun _ h => h) h5 h6)
 show wpList c.P all (cont c.P k c.Q) (o :: l) a w
 simp only [wpList]
 rw [if_pos (by simp [Region.wanted, hg])]
 refine .inl ?_
 unfold Oper.wp
 rw [h1]
 rcases h2 with rfl | ⟨rfl, rfl⟩
 ·exact hn
 ·exact hn
theorem yielded_bool {S0 : Nat → Prop} {a : Act} {w : World} {φ : List (Option Loc)} {fs : List Nat} (h : SRel S0 st a w φ fs) {j d : Nat} {b : Bool} (hd : (all[j]?).bind (·.dst) = some d) (hv : look st.env d = .bool b) (hlt : d < st.n) :
  yielded all a.tmps j = some b := by
 have hr := h.env d
 rw [hv] at hr
 have hs := h.size
 unfold yielded
 rw [hd]
 have hget : a.tmps[d]? = some (a.tmps.getD d undef) := by simp [Array.getD, hs, hlt]
 simp only [Option.bind_some, hget]
 generalize a.tmps.getD d undef = v at hr
 cases hr
 rfl
end
end Go.Proofs.Ytimgfinlbhodhaa.Ab
namespace Go.Proofs.Ytimgfinlbhodhaa.Ab
open Go
set_option linter.unusedVariables false
set_option linter.unusedSimpArgs false
def callArgs (env : List (Nat × A)) (args : Array Operand) (caps : List A) : List A := args.toList.map (ev env) ++ caps
section
variable {c : Cx} {k : List It} {st st' : St} {all : Array Oper} {o : Oper} {l : List Oper}
def Enters (P : Program) (f : FuncId) : Prop := ∀ args w, (callFunc f args).run P w = .ok (.enter f args) w
theorem args_rel {S0 : Nat → Prop} {a : Act} {w : World} {φ : List (Option Loc)} {fs : List Nat} (h : SRel S0 st a w φ fs) (args : List Operand) : RelL w (Sof S0 fs) φ (args.map (ev st.env)) (args.map a.eval) [] := by
 induction args with
 | nil => exact .nil
 | cons x l ih => exact .cons (f := []) (fs := []) (ev_rel h x) ih
theorem G.call {f fid : FuncId} {caps : List A} {fo : Operand} {args : Array Operand} {at_ : Array TypeId} {vargs : List A} {res : A} (he : Enters c.P fid)
  (ho : o.op = .call { callee := .value fo, args := args, argTypes := at_ }) (hg : o.guard = none) (hf : ev st.env fo = .fn fid caps)
  (hva : vwL st.heap (callArgs st.env args caps) = vargs) (hc : AC c.P fid vargs res) (hl : noLoan res = true)
  (hp : (withH st (st.heap ++ (matA st.heap.length res).2)).putO o.dst (matA st.heap.length res).1 = some st') (h : G c (.ops all l :: k) st') : G c (.ops all (o :: l) :: k) st := by
 intro a w φ fs hr hb
 have hfv := ev_rel hr fo
 rw [hf] at hfv
 generalize hfe : a.eval fo = fv at hfv
 cases hfv with
 | fn hcaps =>
  rename_i cvs
  have hargs := (args_rel hr args.toList).append (f := []) (g := []) hcaps
  have hview := vwL_rel hr hargs
  have hcall := hc w c.S0 (args.toList.map a.eval ++ cvs) hr.low (by rw [← hva]; exact hview)
  show wpList c.P all (cont c.P k c.Q) (o :: l) a w
  simp only [wpList]
  rw [if_pos (by simp [Region.wanted, hg])]
  refine .inl ?_
  unfold Oper.wp
  have hrun : (execOp a.eval o).run c.P w = .ok (.enter fid (args.toList.map a.eval ++ cvs).toArray) w := by
   unfold execOp
   rw [ho]
   simp only [resolve, hfe, Deferred.ofValue, invoke, Sem.run_bind, Sem.run_pure, Result.andThen_ok]
   have e : (#[] ++ Array.map a.eval args ++ cvs.toArray : Array Value) = (args.toList.map a.eval ++ cvs).toArray := by apply Array.ext'; simp
   rw [e]
   exact he _ w
  rw [hrun]
  simp only [Oper.upon]
  refine hcall.mono ?_
  rintro e w' ⟨v, fb, rfl, h1, h2, h3, h4⟩
  obtain ⟨φ', fs', g1, g2, g3, g4⟩ := hr.called h1 h2 h3 h4 (.inl hl)
  exact h _ w' φ' fs' (g1.putO g4 hp) (hb.step h4 (fun _ h => h.elim) g2 g3)
end
mutual
/-- Nothing that leads into the abstract heap, however deep. -/
def pureA : A → Bool
 | .sl .. => false
 | .ptr .. => false
 | .agg cs => pureL cs
 | .tup cs => pureL cs
 | .fn _ cs => pureL cs
 | .row own _ es => if own then pureLL es else true
 | .box cs => pureL cs
 | _ => true
def pureL : List A → Bool
 | [] => true
 | a :: as => pureA a && pureL as
def pureLL : List (List A) → Bool
 | [] => true
 | e :: es => pureL e && pureLL es
end
section
variable {w : World} {S : Nat → Prop}
mutual
theorem pure_rel {φ : List (Option Loc)} {x : A} {v : Value} {f : List Nat} (hp : pureA x = true) (h : Rel w S φ x v f) : Rel w S [] x v f := by
 cases x with
 | row own sz es =>
  cases own with
  | false => cases h with
   | ro hu hr hc hl => exact .ro hu hr hc hl
   | ro0 => exact .ro0 _ _ _
  | true =>
   simp only [pureA, if_true] at hp
   cases h with
   | own hh hz hu hr hc hl => exact .own hh hz hu (pureLL_rel hp hr) hc hl
   | own0 => exact .own0 _ _
 | box cs => simp only [pureA] at hp; cases h with | box hh hz hl hc hr => exact .box hh hz hl hc (pureL_rel hp hr)
 | agg cs => simp only [pureA] at hp; cases h with | agg hr => exact .agg (pureL_rel hp hr)
 | tup cs => simp only [pureA] at hp; cases h with | tup hr => exact .tup (pureL_rel hp hr)
 | fn g cs => simp only [pureA] at hp; cases h with | fn hr => exact .fn (pureL_rel hp hr)
 | any => cases h; exact .any _
 | int k n => cases h; exact .int _ _
 | bool b => cases h; exact .bool _
 | str s => cases h; exact .str _
 | nils => cases h; exact .nils
 | nilp => cases h; exact .nilp
 | sl m lo len => simp [pureA] at hp
 | ptr m i j => simp [pureA] at hp
 | rp sz es i j => cases h with | rp hu hr hc => exact .rp hu hr hc
theorem pureL_rel {φ : List (Option Loc)} {xs : List A} {vs : List Value} {f : List Nat} (hp : pureL xs = true) (h : RelL w S φ xs vs f) : RelL w S [] xs vs f := by
 cases xs with
 | nil => cases h; exact .nil
 | cons x xs => cases h with | cons h hs => simp only [pureL, Bool.and_eq_true] at hp; exact .cons (pure_rel hp.1 h) (pureL_rel hp.2 hs)
theorem pureLL_rel {φ : List (Option Loc)} {es : List (List A)} {vs : List Value} {f : List Nat} (hp : pureLL es = true) (h : RelL w S φ es.flatten vs f) : RelL w S [] es.flatten vs f := by
 cases es with
 | nil => cases h; exact .nil
 | cons e es =>
  simp only [pureLL, Bool.and_eq_true] at hp
  rw [List.flatten_cons] at h ⊢
  obtain ⟨u1, u2, g1, g2, rfl, rfl, r1, r2⟩ := h.split
  exact (pureL_rel hp.1 r1).append (pureLL_rel hp.2 r2)
end
theorem pureLL_map (es : List (List A)) : pureLL es = es.all pureL := by
 induction es with
 | nil => rfl
 | cons a as ih => simp [pureLL, ih]
mutual
/-- Blocks of the abstract heap are taken into a value. -/
def foldA (h : Heap) : A → Option (A × Heap)
 | .sl m lo len => match h[m]? with
  | some (some (sz, es)) => if lo + len ≤ es.length ∧ pureLL es = true then some (.row true sz ((es.drop lo).take len), h.set m none) else none
  | _ => none
 | .ptr m i j => match h[m]? with
  | some (some (sz, es)) => match es with
   | [cs] => if i = 0 ∧ j = 0 ∧ pureL cs = true then some (.box cs, h.set m none) else none
   | _ => none
  | _ => none
 | .agg cs => match foldL h cs with
  | some (cs', h') => some (.agg cs', h')
  | none => none
 | .tup cs => match foldL h cs with
  | some (cs', h') => some (.tup cs', h')
  | none => none
 | .fn f cs => if pureL cs = true then some (.fn f cs, h) else none
 | .row own sz es => if own && !(pureLL es) then none else some (.row own sz es, h)
 | .box cs => if pureL cs = true then some (.box cs, h) else none
 | .any => some (.any, h)
 | .int k n => some (.int k n, h)
 | .bool b => some (.bool b, h)
 | .str s => some (.str s, h)
 | .nils => some (.nils, h)
 | .nilp => some (.nilp, h)
 | .rp sz es i j => some (.rp sz es i j, h)
def foldL (h : Heap) : List A → Option (List A × Heap)
 | [] => some ([], h)
 | a :: as => match foldA h a with
  | some (a', h') => match foldL h' as with
   | some (as', h'') => some (a' :: as', h'')
   | none => none
  | none => none
end
end
section
variable {w : World} {S : Nat → Prop} {φ : List (Option Loc)}
def Apart2 (fs f fr fx : List Nat) : Prop := (fr ++ fx).Nodup ∧ ∀ b ∈ fr ++ fx, b ∈ fs ++ f
theorem Apart2.same {fs f : List Nat} (hn : (fs ++ f).Nodup) : Apart2 fs f fs f := ⟨hn, fun b hb => hb⟩
theorem Apart2.two {fs f1 f2 fr fx fr' fx' : List Nat} (hn : (fs ++ (f1 ++ f2)).Nodup) (h : Apart2 fs f1 fr fx) (k : Apart2 fr f2 fr' fx') : Apart2 fs (f1 ++ f2) fr' (fx ++ fx') := by
 obtain ⟨h1, h2⟩ := h
 obtain ⟨k1, k2⟩ := k
 simp only [List.nodup_append, List.mem_append] at h1 k1 h2 k2 hn ⊢
 have hx2 : ∀ x ∈ fx, ∀ y ∈ f2, x ≠ y := fun x hx y hy e => by
  subst e
  rcases h2 x (.inr hx) with h | h
  ·exact hn.2.2 x h x (.inr hy) rfl
  ·exact hn.2.1.2.2 x h x hy rfl
 constructor
 ·simp only [List.nodup_append, List.mem_append]
  refine ⟨k1.1, ⟨h1.2.1, k1.2.1, ?_⟩, ?_⟩
  ·intro x hx y hy e
   subst e
   rcases k2 x (.inr hy) with h | h
   ·exact h1.2.2 x h x hx rfl
   ·exact hx2 x hx x h rfl
  ·rintro x hx y (hy | hy) e
   ·subst e
    rcases k2 x (.inl hx) with h | h
    ·exact h1.2.2 x h x hy rfl
    ·exact hx2 x hy x h rfl
   ·exact k1.2.2 x hx y hy e
 ·intro b hb
  simp only [List.mem_append] at hb ⊢
  rcases hb with hb | hb | hb
  ·rcases k2 b (.inl hb) with h | h
   ·exact (h2 b (.inl h)).imp id .inl
   ·exact .inr (.inr h)
  ·exact (h2 b (.inr hb)).imp id .inl
  ·rcases k2 b (.inr hb) with h | h
   ·exact (h2 b (.inl h)).imp id .inl
   ·exact .inr (.inr h)
theorem nodup_mid {fr f1 f2 fs : List Nat} {fx : List Nat} (hn : (fs ++ (f1 ++ f2)).Nodup) (h : Apart2 fs f1 fr fx) : (fr ++ f2).Nodup := by
 obtain ⟨h1, h2⟩ := h
 simp only [List.nodup_append, List.mem_append] at h1 h2 hn ⊢
 refine ⟨h1.1, hn.2.1.2.1, fun x hx y hy e => ?_⟩
 subst e
 rcases h2 x (.inl hx) with h | h
 ·exact hn.2.2 x h x (.inr hy) rfl
 ·exact hn.2.1.2.2 x h x hy rfl
theorem HRel.kill {h : Heap} {fs : List Nat} (H : HRel w S φ h φ fs) (hn : fs.Nodup) {m : Nat} {b : Blk} (hm : h[m]? = some (some b)) :
  ∃ (l : Loc) (fr fb : List Nat), φ[m]? = some (some l) ∧ BRel w S φ (some b) (some l) fb ∧ HRel w S φ (h.set m none) φ fr ∧ fs.Perm (fr ++ fb) := by
 obtain ⟨lo, f1, fb, f2, q1, q2, q3, q4⟩ := H.at_ hm
 cases lo with
 | none => exact q2.elim
 | some l =>
  refine ⟨l, f1 ++ f2, fb, q1, q2, ?_, ?_⟩
  ·have := q4 w S (fun _ => False) φ none [] (Fr.refl _ w) (fun b hb => .inl hb) (fun _ h => h.elim) (Ext.refl φ) (fun _ _ h => h) (fun _ _ h => h) rfl
   simpa using this
  ·rw [q3, List.append_assoc]
   exact List.Perm.append_left f1 List.perm_append_comm
mutual
theorem foldA_rel {h h' : Heap} {fs f : List Nat} {x x' : A} {v : Value} (H : HRel w S φ h φ fs) (hn : (fs ++ f).Nodup) (hv : Rel w S φ x v f) (hf : foldA h x = some (x', h')) :
  ∃ fr fx, Rel w S [] x' v fx ∧ HRel w S φ h' φ fr ∧ Apart2 fs f fr fx := by
 have plain : ∀ {y : A}, Rel w S φ y v f → pureA y = true → foldA h x = some (y, h) → ∃ fr fx, Rel w S [] x' v fx ∧ HRel w S φ h' φ fr ∧ Apart2 fs f fr fx := by
  intro y hy hp e
  rw [e] at hf
  simp only [Option.some.injEq, Prod.mk.injEq] at hf
  obtain ⟨rfl, rfl⟩ := hf
  exact ⟨fs, f, pure_rel hp hy, H, .same hn⟩
 have kill : ∀ {m : Nat} {b : Blk}, h[m]? = some (some b) → f = [] → ∃ (l : Loc) (fr fb : List Nat), φ[m]? = some (some l) ∧ BRel w S φ (some b) (some l) fb ∧ HRel w S φ (h.set m none) φ fr ∧ (∀ fx : List Nat, fx.Sublist fb → Apart2 fs f fr fx) := by
  rintro m b hm rfl
  simp only [List.append_nil] at hn
  obtain ⟨l, fr, fb, q1, q2, q3, q4⟩ := H.kill hn hm
  refine ⟨l, fr, fb, q1, q2, q3, fun fx hfx => ?_⟩
  have hn2 := q4.nodup hn
  exact ⟨((List.Sublist.refl fr).append hfx).nodup hn2, fun b hb => by
   have := ((List.Sublist.refl fr).append hfx).subset hb
   simpa using q4.mem_iff.2 this⟩
 cases x with
 | sl m lo len =>
  simp only [foldA] at hf
  split at hf
  ·rename_i sz es hm
   split at hf
   ·rename_i hcond
    obtain ⟨hle, hpu⟩ := hcond
    simp only [Option.some.injEq, Prod.mk.injEq] at hf
    obtain ⟨rfl, rfl⟩ := hf
    have hf0 : f = [] := by cases hv; rfl
    subst hf0
    obtain ⟨l, fr, fb, q1, q2, q4, q5⟩ := kill hm rfl
    obtain ⟨hz, q2⟩ := q2
    cases hv with
    | sl hm2 hlo hlen ha =>
     rename_i c ad l2
     have := loc_eq q1 hm2
     subst this
     have hlen0 : ((es.drop lo).take len).length = len := by simp; omega
     rcases q2 with q2 | ⟨arr, ty, vs, f0, rfl, r1, r2, r3, r4, r5, r6⟩
     ·have he : es = [] := q2.2.1
      subst he
      have hl0 : len = 0 := by simpa using hlen0.symm
      have hc0 : c = 0 := by have := q2.1; omega
      subst hl0 hc0
      refine ⟨_, [], ?_, q4, q5 [] (List.nil_sublist _)⟩
      simpa using Rel.own0 (w := w) (S := S) (φ := []) sz ad
     ·obtain ⟨g1, g2, g3, e1, _, w2, _⟩ := r4.window (lo * sz) (len * sz)
      have hfl : (es.flatten.drop (lo * sz)).take (len * sz) = ((es.drop lo).take len).flatten := by rw [flat_drop r3, flat_take (uni_drop r3 lo)]
      rw [hfl] at w2
      have hpw : pureLL ((es.drop lo).take len) = true := by
       rw [pureLL_map] at hpu ⊢
       rw [List.all_eq_true] at hpu ⊢
       exact fun e he => hpu e (List.mem_of_mem_drop (List.mem_of_mem_take he))
      have hg2 : g2.Sublist f0 := by rw [e1]; exact (List.sublist_append_left g2 g3).trans (List.sublist_append_right g1 _)
      by_cases hc0 : 0 < c
      ·refine ⟨_, l2.g :: g2, ?_, q4, q5 _ (hg2.cons_cons l2.g)⟩
       rw [ha hc0]
       have key : Rel w S [] (.row true sz ((es.drop lo).take len)) (.slice (some ⟨l2.g, l2.off + lo * l2.sz, none⟩) ((es.drop lo).take len).length c) (l2.g :: g2) := by
        refine .own r1 ?_ (uni_take (uni_drop r3 lo) len) (pureLL_rel hpw w2) ?_ (by omega)
        ·rw [r2, hz, ← hlo, Nat.add_mul]; omega
        ·intro k u hk
         have hk2 : vs[lo * sz + k]? = some u := by
          by_cases hlt : k < len * sz
          ·rwa [List.getElem?_take_of_lt hlt, List.getElem?_drop] at hk
          ·rw [List.getElem?_eq_none (by simp; omega)] at hk; cases hk
         rw [hz, Nat.add_assoc]
         exact r5 _ _ hk2
       rw [hlen0] at key
       exact key
      ·have hc0 : c = 0 := by omega
       have hl0 : len = 0 := by omega
       subst hc0 hl0
       refine ⟨_, [], ?_, q4, q5 [] (List.nil_sublist _)⟩
       simpa using Rel.own0 (w := w) (S := S) (φ := []) sz ad
   ·cases hf
  ·cases hf
 | ptr m i j =>
  simp only [foldA] at hf
  split at hf
  ·rename_i sz es hm
   split at hf
   ·rename_i cs
    split at hf
    ·rename_i hcond
     obtain ⟨rfl, rfl, hpu⟩ := hcond
     simp only [Option.some.injEq, Prod.mk.injEq] at hf
     obtain ⟨rfl, rfl⟩ := hf
     have hf0 : f = [] := by cases hv; rfl
     subst hf0
     obtain ⟨l, fr, fb, q1, q2, q4, q5⟩ := kill hm rfl
     obtain ⟨hz, q2⟩ := q2
     cases hv with
     | ptr hm2 =>
      rename_i l2
      have := loc_eq q1 hm2
      subst this
      rcases q2 with q2 | ⟨arr, ty, vs, f0, rfl, r1, r2, r3, r4, r5, r6⟩
      ·cases q2.2.1
      ·refine ⟨_, l2.g :: f0, ?_, q4, q5 _ (List.Sublist.refl _)⟩
       have hcs : cs.length = sz := r3 cs (by simp)
       have := Rel.box (w := w) (S := S) (φ := []) (off := l2.off) (cap := l2.cap) r1 (by rw [hcs]; exact r2) (by simpa using r6) r5 (pureL_rel hpu (by simpa using r4))
       simpa using this
    ·cases hf
   ·cases hf
  ·cases hf
 | agg cs =>
  simp only [foldA] at hf
  split at hf
  ·rename_i cs' h2 hl
   simp only [Option.some.injEq, Prod.mk.injEq] at hf
   obtain ⟨rfl, rfl⟩ := hf
   cases hv with
   | agg hr =>
    obtain ⟨fr, fx, g1, g2, g3⟩ := foldL_rel H hn hr hl
    exact ⟨fr, fx, .agg g1, g2, g3⟩
  ·cases hf
 | tup cs =>
  simp only [foldA] at hf
  split at hf
  ·rename_i cs' h2 hl
   simp only [Option.some.injEq, Prod.mk.injEq] at hf
   obtain ⟨rfl, rfl⟩ := hf
   cases hv with
   | tup hr =>
    obtain ⟨fr, fx, g1, g2, g3⟩ := foldL_rel H hn hr hl
    exact ⟨fr, fx, .tup g1, g2, g3⟩
  ·cases hf
 | fn g cs =>
  simp only [foldA] at hf
  split at hf
  ·rename_i hp
   exact plain hv hp (by simp [foldA, hp])
  ·cases hf
 | row own sz es =>
  simp only [foldA] at hf
  split at hf
  ·cases hf
  ·rename_i hc
   refine plain hv ?_ (by simp only [foldA]; rw [if_neg hc])
   cases own with
   | false => rfl
   | true => simpa [pureA] using hc
 | box cs =>
  simp only [foldA] at hf
  split at hf
  ·rename_i hp
   exact plain hv hp (by simp [foldA, hp])
  ·cases hf
 | any => exact plain hv rfl rfl
 | int k n => exact plain hv rfl rfl
 | bool b => exact plain hv rfl rfl
 | str s => exact plain hv rfl rfl
 | nils => exact plain hv rfl rfl
 | nilp => exact plain hv rfl rfl
 | rp sz es i j => exact plain hv rfl rfl
theorem foldL_rel {h h' : Heap} {fs f : List Nat} {xs xs' : List A} {vs : List Value} (H : HRel w S φ h φ fs) (hn : (fs ++ f).Nodup) (hv : RelL w S φ xs vs f) (hf : foldL h xs = some (xs', h')) :
  ∃ fr fx, RelL w S [] xs' vs fx ∧ HRel w S φ h' φ fr ∧ Apart2 fs f fr fx := by
 cases xs with
 | nil =>
  cases hv
  simp only [foldL, Option.some.injEq, Prod.mk.injEq] at hf
  obtain ⟨rfl, rfl⟩ := hf
  exact ⟨fs, [], .nil, H, .same hn⟩
 | cons x xs =>
  cases hv with
  | cons h1 h2 =>
   rename_i v f1 vs f2
   simp only [foldL] at hf
   split at hf
   ·rename_i x' h0 hx
    split at hf
    ·rename_i xs0 h00 hxs
     simp only [Option.some.injEq, Prod.mk.injEq] at hf
     obtain ⟨rfl, rfl⟩ := hf
     have hn1 : (fs ++ f1).Nodup := ((List.Sublist.refl fs).append (List.sublist_append_left f1 f2)).nodup hn
     obtain ⟨fr, fx, g1, g2, g3⟩ := foldA_rel H hn1 h1 hx
     obtain ⟨fr', fx', g1', g2', g3'⟩ := foldL_rel g2 (nodup_mid hn g3) h2 hxs
     exact ⟨fr', fx ++ fx', .cons g1 g1', g2', Apart2.two hn g3 g3'⟩
    ·cases hf
   ·cases hf
end
def foldLL (h : Heap) : List (List A) → Option (List (List A) × Heap)
 | [] => some ([], h)
 | e :: es => match foldL h e with
  | some (e', h') => match foldLL h' es with
   | some (es', h'') => some (e' :: es', h'')
   | none => none
  | none => none
theorem foldL_len {h h' : Heap} {xs xs' : List A} (hf : foldL h xs = some (xs', h')) : xs'.length = xs.length := by
 induction xs generalizing h h' xs' with
 | nil => simp only [foldL, Option.some.injEq, Prod.mk.injEq] at hf; rw [← hf.1]
 | cons x xs ih =>
  simp only [foldL] at hf
  split at hf
  ·split at hf
   ·rename_i hxs
    simp only [Option.some.injEq, Prod.mk.injEq] at hf
    rw [← hf.1]
    simp [ih hxs]
   ·cases hf
  ·cases hf
theorem foldLL_rel {es es' : List (List A)} {sz : Nat} : ∀ {h h' : Heap} {fs f : List Nat} {vs : List Value}, HRel w S φ h φ fs → (fs ++ f).Nodup → RelL w S φ es.flatten vs f → foldLL h es = some (es', h') → (∀ e ∈ es, e.length = sz) →
  ∃ fr fx, RelL w S [] es'.flatten vs fx ∧ HRel w S φ h' φ fr ∧ Apart2 fs f fr fx ∧ (∀ e ∈ es', e.length = sz) ∧ es'.length = es.length := by
 induction es generalizing es' with
 | nil =>
  intro h h' fs f vs H hn hv hf hu
  simp only [foldLL, Option.some.injEq, Prod.mk.injEq] at hf
  obtain ⟨rfl, rfl⟩ := hf
  cases hv
  exact ⟨fs, [], .nil, H, .same hn, by simp, rfl⟩
 | cons e es ih =>
  intro h h' fs f vs H hn hv hf hu
  rw [List.flatten_cons] at hv
  obtain ⟨u1, u2, f1, f2, rfl, rfl, r1, r2⟩ := hv.split
  simp only [foldLL] at hf
  split at hf
  ·rename_i e' h0 he
   split at hf
   ·rename_i es0 h00 hes
    simp only [Option.some.injEq, Prod.mk.injEq] at hf
    obtain ⟨rfl, rfl⟩ := hf
    have hn1 : (fs ++ f1).Nodup := ((List.Sublist.refl fs).append (List.sublist_append_left f1 f2)).nodup hn
    obtain ⟨fr, fx, g1, g2, g3⟩ := foldL_rel H hn1 r1 he
    obtain ⟨fr', fx', g1', g2', g3', g4', g5'⟩ := ih g2 (nodup_mid hn g3) r2 hes (fun x hx => hu x (by simp [hx]))
    refine ⟨fr', fx ++ fx', by rw [List.flatten_cons]; exact g1.append g1', g2', Apart2.two hn g3 g3', ?_, by simp [g5']⟩
    intro x hx
    rcases List.mem_cons.1 hx with rfl | hx
    ·rw [foldL_len he]; exact hu e (by simp)
    ·exact g4' x hx
   ·cases hf
  ·cases hf
end
section
variable {c : Cx} {k : List It} {st st' : St} {all : Array Oper} {o : Oper} {l : List Oper}
def resA (T : Tab) (env : List (Nat × A)) (h : Heap) : ResultVar → Option A
 | .tmp t => some (look env t)
 | .cell p ty => aval1 T env h (.load ty (.tmp p))
def resAll (T : Tab) (env : List (Nat × A)) (h : Heap) : List ResultVar → Option (List A)
 | [] => some []
 | r :: rs => match resA T env h r, resAll T env h rs with
  | some x, some xs => some (x :: xs)
  | _, _ => none
def oneOrTup : List A → A
 | [x] => x
 | xs => .tup xs
def ACpost (w0 : World) (S0 : Nat → Prop) (res : A) (e : Ending) (w' : World) : Prop := ∃ v fb, e = .returned v ∧ Rel w' (Sof S0 fb) [] res v fb ∧ fb.Nodup ∧ (∀ b ∈ fb, w0.heap.size ≤ b) ∧ Fr (fun _ => False) w0 w'
def resOne (tmps : Array Value) : ResultVar → Sem Value
 | .tmp t => pure (tmps.getD t undef)
 | .cell p ty => do loadVar ty (← asAddr (tmps.getD p undef))
theorem results_eq (fn : Func) (tmps : Array Value) : results fn tmps = (do
  let vs ← fn.results.mapM (resOne tmps)
  pure (if h : vs.size = 1 then vs[0] else .tuple vs)) := by
 unfold results
 congr 1
theorem resOne_run {P : Program} {T : Tab} (hT : T.ok P) {S0 : Nat → Prop} {a : Act} {w : World} {φ : List (Option Loc)} {fs : List Nat} (h : SRel S0 st a w φ fs) {r : ResultVar} {x : A} (hr : resA T st.env st.heap r = some x) :
  ∃ v, (resOne a.tmps r).run P w = .ok v w ∧ Rel w (Sof S0 fs) φ x v [] := by
 cases r with
 | tmp t => simp only [resA, Option.some.injEq] at hr; subst hr; exact ⟨_, rfl, h.env t⟩
 | cell p ty =>
  simp only [resA] at hr
  obtain ⟨v, h1, h2⟩ := aval1_run hT h (o := { (default : Oper) with op := .load ty (.tmp p) }) hr
  refine ⟨v, ?_, h2⟩
  have hp : a.eval (.tmp p) = a.tmps.getD p undef := rfl
  simp only [execOp, Instr.loadAt, hp, Sem.run_bind] at h1
  simp only [resOne, Sem.run_bind]
  cases hpv : a.tmps.getD p undef <;> rw [hpv] at h1
  case pointer ad =>
   cases ad with
   | none => simp [Instr.sureAddr, stuck, Sem.run, Result.andThen] at h1
   | some ad =>
    simp only [Instr.sureAddr, Sem.run_pure, Result.andThen_ok] at h1
    simp only [asAddr, Sem.run_pure, Result.andThen_ok]
    generalize (loadVar ty ad).run P w = r at h1 ⊢
    cases r with
    | ok v' w' => simp [Result.andThen] at h1; rw [h1.1, h1.2]
    | halt x w' => simp [Result.andThen] at h1
  all_goals (simp [Instr.sureAddr, stuck, Sem.run, Result.andThen] at h1)
theorem resAll_run {P : Program} {T : Tab} (hT : T.ok P) {S0 : Nat → Prop} {a : Act} {w : World} {φ : List (Option Loc)} {fs : List Nat} (h : SRel S0 st a w φ fs) : ∀ (rs : List ResultVar) (xs : List A), resAll T st.env st.heap rs = some xs →
  ∃ vs : List Value, (rs.mapM (resOne a.tmps)).run P w = Result.ok vs w ∧ RelL w (Sof S0 fs) φ xs vs [] := by
 intro rs
 induction rs with
 | nil => intro xs hx; simp only [resAll, Option.some.injEq] at hx; subst hx; exact ⟨[], by simp, .nil⟩
 | cons r rs ih =>
  intro xs hx
  simp only [resAll] at hx
  split at hx
  ·rename_i x xs' h1 h2
   injection hx with hx
   subst hx
   obtain ⟨v, e1, r1⟩ := resOne_run hT h h1
   obtain ⟨vs, e2, r2⟩ := ih xs' h2
   exact ⟨v :: vs, by simp only [List.mapM_cons, Sem.run_bind, e1, Result.andThen_ok, e2, Sem.run_pure], .cons (f := []) (fs := []) r1 r2⟩
  ·cases hx
def oneOrTupV : List Value → Value
 | [v] => v
 | vs => .tuple vs.toArray
theorem results_run {P : Program} {T : Tab} (hT : T.ok P) {S0 : Nat → Prop} {a : Act} {w : World} {φ : List (Option Loc)} {fs : List Nat} (h : SRel S0 st a w φ fs) {fn : Func} {xs : List A} (hx : resAll T st.env st.heap fn.results.toList = some xs) :
  ∃ vs, (results fn a.tmps).run P w = .ok (oneOrTupV vs) w ∧ RelL w (Sof S0 fs) φ xs vs [] := by
 obtain ⟨vs, h1, h2⟩ := resAll_run hT h fn.results.toList xs hx
 refine ⟨vs, ?_, h2⟩
 rw [results_eq]
 simp only [Sem.run_bind, Array.mapM_eq_mapM_toList]
 have : (List.toArray <$> fn.results.toList.mapM (resOne a.tmps) : Sem (Array Value)).run P w = .ok vs.toArray w := by
  rw [map_eq_pure_bind]
  simp only [Sem.run_bind, h1, Result.andThen_ok, Sem.run_pure]
 rw [this]
 simp only [Result.andThen_ok, Sem.run_pure]
 cases vs with
 | nil => rfl
 | cons v vs => cases vs <;> rfl
theorem oneOrTup_rel {w : World} {S : Nat → Prop} {φ : List (Option Loc)} {xs : List A} {vs : List Value} {f : List Nat} (h : RelL w S φ xs vs f) : Rel w S φ (oneOrTup xs) (oneOrTupV vs) f := by
 cases h with
 | nil => exact .tup .nil
 | cons h hs =>
  cases hs with
  | nil => simpa [oneOrTup, oneOrTupV] using h
  | cons h2 hs2 => exact .tup (.cons h (.cons h2 hs2))
theorem G.done {P : Program} {T : Tab} {S0 : Nat → Prop} {w0 : World} {fn : Func} {res : A} {xs xs' : List A} {h' : Heap} (hT : T.ok P) (hx : resAll T st.env st.heap fn.results.toList = some xs) (hf : foldL st.heap xs = some (xs', h')) (hr : oneOrTup xs' = res) :
  G ⟨P, T, S0, w0, [], [], bodyPost P fn (ACpost w0 S0 res)⟩ (.code .ret :: k) st := by
 refine G.ret fun a w φ fs hs hb => ?_
 obtain ⟨vs, h1, h2⟩ := results_run hT hs hx
 obtain ⟨fr, fx, g1, g2, g3⟩ := foldL_rel hs.heap (by simpa using hs.nodup) h2 hf
 have g3b : ∀ b ∈ fx, b ∈ fs := fun b hb => by simpa using g3.2 b (by simp [hb])
 refine ⟨hs.defers, _, h1, _, fx, rfl, ?_, (List.nodup_append.1 g3.1).2.1, ?_, ?_⟩
 ·rw [← hr]
  exact oneOrTup_rel (g1.frame (Fr.refl (fun _ => False) w) (fun b hb => .inl (hb.imp id (g3b b))) (fun _ h => h.elim) (Ext.refl _) (fun _ _ h => h))
 ·intro b hb'
  exact (hb.2.1 b (g3b b hb')).resolve_left (by simp)
 ·exact hb.1.mono (fun b hb => by simp at hb)
theorem look_zip (args : List A) (n i : Nat) : look ((args.zipIdx n).map fun x => (x.2, x.1)) i = if n ≤ i then args.getD (i - n) .any else .any := by
 induction args generalizing n with
 | nil => simp [look]
 | cons a args ih =>
  rw [List.zipIdx_cons, List.map_cons]
  simp only [look]
  by_cases hi : i = n
  ·subst hi; simp [Nat.beq_refl]
  ·have hb : Nat.beq i n = false := by cases hb : Nat.beq i n; rfl; exact absurd (Nat.eq_of_beq_eq_true hb) hi
   rw [hb, ih]
   simp only [Bool.false_eq_true, if_false]
   by_cases hn : n + 1 ≤ i
   ·rw [if_pos hn, if_pos (by omega)]
    rw [show i - n = (i - (n + 1)) + 1 by omega]
    rfl
   ·rw [if_neg hn]
    split
    ·omega
    ·rfl
theorem AC.of {P : Program} {T : Tab} {f : FuncId} {fn : Func} {code : Code} {args : List A} {res : A} (hT : T.ok P) (hf : P.funcs[f]? = some fn) (hb : fn.body = some code) (hn : args.length ≤ fn.ntmps)
  (h : ∀ w0 S0, G ⟨P, T, S0, w0, [], [], bodyPost P fn (ACpost w0 S0 res)⟩ [.code code] ⟨(args.zipIdx 0).map fun x => (x.2, x.1), [], fn.ntmps⟩) : AC P f args res := by
 intro w S0 vs hlow hr
 refine calls_of_wp hf hb ?_
 have hl := hr.length
 refine h w S0 { tmps := vs.toArray ++ Array.replicate (fn.ntmps - vs.toArray.size) undef, defers := [] } w [] [] ⟨rfl, by simp; omega, fun i => ?_, .nil, by simp, by simp, hlow⟩ ⟨Fr.refl _ w, by simp, Ext.refl _⟩
 rw [look_zip]
 simp only [Nat.zero_le, if_true, Nat.sub_zero]
 by_cases hi : i < args.length
 ·obtain ⟨v, h1, h2⟩ := hr.none_at (k := i) (a := args[i]) (by simp [hi])
  have e1 : args.getD i .any = args[i] := by simp [hi]
  have e2 : (vs.toArray ++ Array.replicate (fn.ntmps - vs.toArray.size) undef).getD i undef = v := by
   have hlt : i < vs.length := by omega
   have hv : vs[i] = v := by rw [List.getElem?_eq_getElem hlt] at h1; injection h1
   simp [Array.getD, Array.getElem_append, hlt, hv]
   omega
  rw [e1, e2]
  exact h2.frame (Fr.refl (fun _ => False) w) (fun b hb => .inl (hb.elim id (by simp))) (fun _ h => h.elim) (Ext.refl _) (fun _ _ h => h)
 ·have : args.getD i .any = .any := by rw [List.getD_eq_getElem?_getD, List.getElem?_eq_none (by omega)]; rfl
  rw [this]
  exact .any _
end
end Go.Proofs.Ytimgfinlbhodhaa.Ab
namespace Go.Proofs.Ytimgfinlbhodhaa.Ab
open Go
set_option linter.unusedVariables false
set_option linter.unusedSimpArgs false
section
variable {c : Cx} {k : List It} {st st' : St} {all : Array Oper} {o : Oper} {l : List Oper}
theorem exists_min {p : Nat → Prop} (h : ∃ n, p n) : ∃ n, p n ∧ ∀ m, p m → n ≤ m := by
 obtain ⟨n, hn⟩ := h
 induction n using Nat.strongRecOn with
 | _ n ih =>
  by_cases hm : ∃ m, m < n ∧ p m
  ·obtain ⟨m, h1, h2⟩ := hm
   exact ih m h1 h2
  ·refine ⟨n, hn, fun m hpm => ?_⟩
   rcases Nat.lt_or_ge m n with h | h
   ·exact absurd ⟨m, h, hpm⟩ hm
   ·exact h
open Classical in
theorem G.loop {body : Code} (I : St → Prop) (μ : St → Nat) (h0 : I st) (round : ∀ st, I st → ∀ J : Act → World → Prop, (∀ st', I st' → μ st' < μ st → G c (.upto J :: k) st') → G c (.code body :: .upto J :: k) st) : G c (.code (.loop body) :: k) st := by
 intro a w φ fs hs hb
 let Ok : Act → World → Nat → Prop := fun a w n => ∃ st φ fs, SRel c.S0 st a w φ fs ∧ Bnd c w φ fs ∧ I st ∧ μ st = n
 let m : Act → World → Nat := fun a w => if h : ∃ n, Ok a w n then Classical.choose (exists_min h) else 0
 show (Code.loop body).wp c.P (cont c.P k c.Q) a w
 refine wp_loop (fun a w => ∃ n, Ok a w n) m ⟨μ st, st, φ, fs, hs, hb, h0, rfl⟩ ?_
 intro a1 w1 h1
 have hm : m a1 w1 = Classical.choose (exists_min h1) := dif_pos h1
 obtain ⟨⟨st1, φ1, fs1, hs1, hb1, hi1, e1⟩, _⟩ := Classical.choose_spec (exists_min h1)
 refine round st1 hi1 (fun a' w' => (∃ n, Ok a' w' n) ∧ m a' w' < m a1 w1) ?_ a1 w1 φ1 fs1 hs1 hb1
 intro st2 hi2 hlt a2 w2 φ2 fs2 hs2 hb2
 refine ⟨⟨μ st2, st2, φ2, fs2, hs2, hb2, hi2, rfl⟩, ?_⟩
 have h2 : ∃ n, Ok a2 w2 n := ⟨μ st2, st2, φ2, fs2, hs2, hb2, hi2, rfl⟩
 have hm2 : m a2 w2 = Classical.choose (exists_min h2) := dif_pos h2
 have hle := (Classical.choose_spec (exists_min h2)).2 (μ st2) ⟨st2, φ2, fs2, hs2, hb2, hi2, rfl⟩
 rw [hm, hm2, ← e1]
 omega
theorem G.foldBlk (m : Nat) {sz : Nat} {es es' : List (List A)} {h1 : Heap} (hm : st.heap[m]? = some (some (sz, es))) (hf : foldLL (st.heap.set m none) es = some (es', h1)) (hne : es ≠ []) (hm1 : h1[m]? = some none) (hl : h1.length = st.heap.length)
  (h : G c k (withH st (h1.set m (some (sz, es'))))) : G c k st := by
 intro a w φ fs hs hb
 obtain ⟨l, fr, fb, q1, q2, q3, q4⟩ := hs.heap.kill hs.nodup hm
 obtain ⟨hz, q2⟩ := q2
 rcases q2 with q2 | ⟨arr, ty, vs, f0, rfl, r1, r2, r3, r4, r5, r6⟩
 ·exact absurd q2.2.1 hne
 ·have hnd := q4.nodup hs.nodup
  have hn0 : (fr ++ f0).Nodup := ((List.Sublist.refl fr).append (List.sublist_cons_self l.g f0)).nodup hnd
  obtain ⟨fr', fx, g1, g2, g3, g4, g5⟩ := foldLL_rel q3 hn0 r4 hf r3
  obtain ⟨lo, f1, f0', f2, p1, p2, p3, p4⟩ := g2.at_ hm1
  have : f0' = [] := p2
  subst this
  rw [q1] at p1
  injection p1 with p1
  subst p1
  have hgn : ∀ b ∈ fr' ++ fx, b ≠ l.g := fun b hb' e => by
   subst e
   have hb2 := g3.2 _ hb'
   rw [List.nodup_append] at hnd
   rcases List.mem_append.1 hb2 with h | h
   ·exact hnd.2.2 _ h _ (by simp) rfl
   ·exact (List.nodup_cons.1 hnd.2.1).1 h
  have hsub : ∀ b ∈ f1 ++ ((l.g :: fx) ++ f2), b ∈ fs := fun b hb' => by
   rw [q4.mem_iff]
   simp only [List.mem_append, List.mem_cons] at hb'
   have h3 : ∀ b, b ∈ fr' ∨ b ∈ fx → b ∈ fr ++ l.g :: f0 := fun b hb2 => by
    have := g3.2 b (List.mem_append.2 hb2)
    simp only [List.mem_append, List.mem_cons] at this ⊢
    exact this.imp id .inr
   rcases hb' with hb' | (rfl | hb') | hb'
   ·exact h3 b (.inl (by rw [p3]; simp [hb']))
   ·simp
   ·exact h3 b (.inr hb')
   ·exact h3 b (.inl (by rw [p3]; simp [hb']))
  have hnn : (f1 ++ ((l.g :: fx) ++ f2)).Nodup := by
   have h1' := g3.1
   rw [p3, List.nil_append] at h1'
   have hperm : (f1 ++ ((l.g :: fx) ++ f2)).Perm (l.g :: ((f1 ++ f2) ++ fx)) := by
    refine (List.perm_middle (l₁ := f1) (a := l.g) (l₂ := fx ++ f2)).trans (List.Perm.cons _ ?_)
    rw [List.append_assoc]
    exact List.Perm.append_left f1 List.perm_append_comm
   refine hperm.symm.nodup (List.nodup_cons.2 ⟨fun hin => ?_, h1'⟩)
   exact hgn l.g (by rw [p3, List.nil_append]; exact hin) rfl
  have hb' : BRel w (Sof c.S0 fs) φ (some (sz, es')) (some l) (l.g :: fx) := ⟨hz, .inr ⟨arr, ty, vs, fx, rfl, r1, r2, g4, g1.up, r5, by rw [g5]; exact r6⟩⟩
  have hh := p4 w (Sof c.S0 fs) (fun _ => False) φ (some (sz, es')) (l.g :: fx) (Fr.refl _ w) (fun b hb => .inl hb) (fun _ h => h.elim) (Ext.refl φ) (fun _ _ h => h) (fun _ _ h => h) hb'
  refine h a w φ _ (hs.to (Fr.refl (fun _ => False) w) (fun _ h => h.elim) (fun b hb => .inl (hsub b hb)) (Ext.refl φ) hnn (hh.sub (fun b hb => hb.imp id (hsub b)))) ⟨hb.1, fun b hb2 => hb.2.1 b (hsub b hb2), hb.2.2⟩
def idx (sel : List Nat) (m : Nat) : Option Nat :=
 match sel with
 | [] => none
 | x :: r => if Nat.beq m x then some 0 else (idx r m).map (· + 1)
mutual
def ren (sel : List Nat) : A → A
 | .sl m lo len => match idx sel m with
  | some i => .sl i lo len
  | none => .any
 | .ptr m i j => match idx sel m with
  | some q => .ptr q i j
  | none => .any
 | .agg cs => .agg (renL sel cs)
 | .tup cs => .tup (renL sel cs)
 | .fn f cs => .fn f (renL sel cs)
 | .row own sz es => if own then .any else .row false sz es
 | .box _ => .any
 | .any => .any
 | .int k n => .int k n
 | .bool b => .bool b
 | .str s => .str s
 | .nils => .nils
 | .nilp => .nilp
 | .rp sz es i j => .rp sz es i j
def renL (sel : List Nat) : List A → List A
 | [] => []
 | a :: as => ren sel a :: renL sel as
end
theorem idx_get {sel : List Nat} {m i : Nat} (h : idx sel m = some i) : sel[i]? = some m := by
 induction sel generalizing i with
 | nil => cases h
 | cons x r ih =>
  simp only [idx] at h
  split at h
  ·rename_i e
   injection h with h
   subst h
   simp [Nat.eq_of_beq_eq_true e]
  ·obtain ⟨j, h1, h2⟩ := Option.map_eq_some_iff.1 h
   subst h2
   simpa using ih h1
def pick (h : Heap) (sel : List Nat) : Heap := sel.map fun m => (h[m]?).getD none
def pickφ (φ : List (Option Loc)) (sel : List Nat) : List (Option Loc) := sel.map fun m => (φ[m]?).getD none
section ren
variable {w : World} {S : Nat → Prop} {φ : List (Option Loc)}
theorem pick_at {sel : List Nat} {m i : Nat} {l : Loc} (h : idx sel m = some i) (hm : φ[m]? = some (some l)) : (pickφ φ sel)[i]? = some (some l) := by
 unfold pickφ
 rw [List.getElem?_map, idx_get h]
 simp [hm]
mutual
theorem ren_rel {sel : List Nat} {x : A} {v : Value} (h : Rel w S φ x v []) : Rel w S (pickφ φ sel) (ren sel x) v [] := by
 cases x with
 | sl m lo len =>
  simp only [ren]
  split
  ·rename_i i hi
   cases h with
   | sl hm hlo hl ha => exact .sl (pick_at hi hm) hlo hl ha
  ·exact .any _
 | ptr m i j =>
  simp only [ren]
  split
  ·rename_i q hi
   cases h with
   | ptr hm => exact .ptr (pick_at hi hm)
  ·exact .any _
 | agg cs => cases h with | agg hr => exact .agg (renL_rel hr)
 | tup cs => cases h with | tup hr => exact .tup (renL_rel hr)
 | fn f cs => cases h with | fn hr => exact .fn (renL_rel hr)
 | row own sz es =>
  cases own with
  | true => exact .any _
  | false => cases h with
   | ro hu hr hc hl => exact .ro hu hr hc hl
   | ro0 => exact .ro0 _ _ _
 | box cs => cases h
 | any => exact .any _
 | int k n => cases h; exact .int _ _
 | bool b => cases h; exact .bool _
 | str s => cases h; exact .str _
 | nils => cases h; exact .nils
 | nilp => cases h; exact .nilp
 | rp sz es i j => cases h with | rp hu hr hc => exact .rp hu hr hc
theorem renL_rel {sel : List Nat} {xs : List A} {vs : List Value} (h : RelL w S φ xs vs []) : RelL w S (pickφ φ sel) (renL sel xs) vs [] := by
 cases xs with
 | nil => cases h; exact .nil
 | cons x xs =>
  generalize hf : ([] : List Nat) = f at h
  cases h with
  | cons h1 h2 =>
   obtain ⟨e1, e2⟩ := List.append_eq_nil_iff.1 hf.symm
   subst e1 e2
   exact .cons (f := []) (fs := []) (ren_rel h1) (renL_rel h2)
end
theorem pick_heap {φ' : List (Option Loc)} (sel : List Nat) : ∀ {h : Heap} {fs : List Nat}, HRel w S φ h φ fs → fs.Nodup → sel.Nodup → (∀ m ∈ sel, ∀ sz es, h[m]? = some (some (sz, es)) → pureLL es = true) →
  ∃ fr, HRel w S φ' (pick h sel) (pickφ φ sel) fr ∧ fr.Nodup ∧ ∀ b ∈ fr, b ∈ fs := by
 induction sel with
 | nil => intro h fs H hn hs hp; exact ⟨[], .nil, by simp, by simp⟩
 | cons m sel ih =>
  intro h fs H hn hs hp
  have hs2 := List.nodup_cons.1 hs
  cases hm : h[m]? with
  | none =>
   obtain ⟨fr, g1, g2, g3⟩ := ih H hn hs2.2 (fun x hx => hp x (by simp [hx]))
   refine ⟨[] ++ fr, ?_, by simpa using g2, by simpa using g3⟩
   simp only [pick, pickφ, List.map_cons, hm]
   exact .cons rfl g1
  | some b =>
   cases b with
   | none =>
    obtain ⟨fr, g1, g2, g3⟩ := ih H hn hs2.2 (fun x hx => hp x (by simp [hx]))
    refine ⟨[] ++ fr, ?_, by simpa using g2, by simpa using g3⟩
    simp only [pick, pickφ, List.map_cons, hm]
    exact .cons rfl g1
   | some b =>
    obtain ⟨l, fr0, fb, q1, q2, q3, q4⟩ := H.kill hn hm
    have hnd := q4.nodup hn
    have hnd2 := List.nodup_append.1 hnd
    obtain ⟨fr, g1, g2, g3⟩ := ih q3 hnd2.1 hs2.2 (fun x hx sz es hxe => by
     by_cases e : x = m
     ·subst e; exact absurd hx hs2.1
     ·rw [List.getElem?_set_ne (fun h => e h.symm)] at hxe; exact hp x (by simp [hx]) sz es hxe)
    have heq : pick (h.set m none) sel = pick h sel := by
     unfold pick
     apply List.map_congr_left
     intro x hx
     have : m ≠ x := fun e => hs2.1 (by rw [e]; exact hx)
     rw [List.getElem?_set_ne this]
    rw [heq] at g1
    refine ⟨fb ++ fr, ?_, ?_, ?_⟩
    ·simp only [pick, pickφ, List.map_cons, hm, q1, Option.getD_some]
     refine .cons ?_ g1
     obtain ⟨sz, es⟩ := b
     obtain ⟨hz, q2⟩ := q2
     refine ⟨hz, ?_⟩
     rcases q2 with q2 | ⟨arr, ty, vs, f0, rfl, r1, r2, r3, r4, r5, r6⟩
     ·exact .inl q2
     ·exact .inr ⟨arr, ty, vs, f0, rfl, r1, r2, r3, (pureLL_rel (hp m (by simp) sz es hm) r4).up, r5, r6⟩
    ·exact List.nodup_append.2 ⟨hnd2.2.1, g2, fun a ha b hb e => by subst e; exact hnd2.2.2 a (g3 a hb) a ha rfl⟩
    ·intro b hb
     rw [q4.mem_iff]
     rcases List.mem_append.1 hb with hb | hb
     ·simp [hb]
     ·simp [g3 b hb]
end ren
theorem look_map {f : A → A} (live : List Nat) (env : List (Nat × A)) (i : Nat) : look (live.map fun j => (j, f (look env j))) i = .any ∨ look (live.map fun j => (j, f (look env j))) i = f (look env i) := by
 induction live with
 | nil => exact .inl rfl
 | cons x l ih =>
  simp only [List.map_cons, look]
  split
  ·rename_i e
   rw [Nat.eq_of_beq_eq_true e]
   exact .inr rfl
  ·exact ih
theorem G.canon (live sel : List Nat) (hs : sel.Nodup) (hφ : c.φ0 = []) (hp : ∀ m ∈ sel, ∀ sz es, st.heap[m]? = some (some (sz, es)) → pureLL es = true)
  (h : G c k ⟨live.map fun i => (i, ren sel (look st.env i)), pick st.heap sel, st.n⟩) : G c k st := by
 intro a w φ fs hr hb
 obtain ⟨fr, g1, g2, g3⟩ := pick_heap (φ' := pickφ φ sel) sel hr.heap hr.nodup hs hp
 refine h a w (pickφ φ sel) fr ⟨hr.defers, hr.size, fun i => ?_, g1.sub (fun b hb => hb.imp id (g3 b)), g2, fun b hb => hr.apart b (g3 b hb), hr.low⟩ ⟨hb.1, fun b hb2 => hb.2.1 b (g3 b hb2), by rw [hφ]; exact fun m l h => by simp at h⟩
 have : Rel w (Sof c.S0 fs) (pickφ φ sel) (look (live.map fun j => (j, ren sel (look st.env j))) i) (a.tmps.getD i undef) [] := by
  rcases look_map (f := ren sel) live st.env i with e | e
  ·rw [e]; exact .any _
  ·rw [e]; exact ren_rel (hr.env i)
 exact this.frame (Fr.refl (fun _ => False) w) (fun b hb => .inl (hb.imp id (g3 b))) (fun _ h => h.elim) (Ext.refl _) (fun _ _ h => h)
end
end Go.Proofs.Ytimgfinlbhodhaa.Ab
