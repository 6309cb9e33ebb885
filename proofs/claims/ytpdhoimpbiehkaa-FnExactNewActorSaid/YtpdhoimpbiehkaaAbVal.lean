/- Operations that leave the memory alone: what they make of abstract values. -/
import Derived.Test.YtpdhoimpbiehkaaAbOps
import Derived.Laws.Entries
namespace Go.Proofs.Ytpdhoimpbiehkaa.Ab
open Go
set_option linter.unusedVariables false
set_option linter.unusedSimpArgs false

/-! ### Numbers, bools, strings -/
def aint (op : BinOp) (k : IntKind) (a b : Int) : Option A :=
  match op with
  | .add => some (.int k (k.wrap (a + b)))
  | .sub => some (.int k (k.wrap (a - b)))
  | .mul => some (.int k (k.wrap (a * b)))
  | .quo => if b = 0 then none else some (.int k (k.wrap (a.tdiv b)))
  | .rem => if b = 0 then none else some (.int k (a.tmod b))
  | .and => some (.int k (k.wrap (BitVec.ofInt k.bits a &&& BitVec.ofInt k.bits b).toNat))
  | .xor => some (.int k (k.wrap (BitVec.ofInt k.bits a ^^^ BitVec.ofInt k.bits b).toNat))
  | .eql => some (.bool (a == b))
  | .neq => some (.bool (a != b))
  | .lss => some (.bool (decide (a < b)))
  | .leq => some (.bool (decide (a ≤ b)))
  | .gtr => some (.bool (decide (a > b)))
  | .geq => some (.bool (decide (a ≥ b)))
  | _ => none
def ashift (op : BinOp) (k : IntKind) (a b : Int) : Option A :=
  if b < 0 then none else
  match op with
  | .shl => some (.int k (k.wrap (a * 2 ^ (min b.toNat k.bits))))
  | .shr => some (.int k (a.fdiv (2 ^ (min b.toNat k.bits))))
  | _ => none
/-- A slice of which is known whether it is nil. -/
def abin (T : Tab) (op : BinOp) (t : Nat) (x y : A) : Option A :=
  match x, y with
  | .int k a, .int k' b => if op = .shl ∨ op = .shr then ashift op k a b else if k = k' then aint op k a b else none
  | .bool a, .bool b => match (T t).map TI.kind, op with
    | some TK.bool, .eql => some (.bool (a == b))
    | some TK.bool, .neq => some (.bool (!(a == b)))
    | _, _ => none
  | .str a, .str b => match op with
    | .eql => some (.bool (a.toList == b.toList))
    | .neq => some (.bool (!(a.toList == b.toList)))
    | _ => none
  | _, _ => none

section
variable {P : Program} {w : World} {S : Nat → Prop} {φ : List (Option Loc)}
theorem under_bool {t : Nat} {i : TI} (h : i.fits P t = true) (hk : i.kind = .bool) : P.underlying t = some .bool := by
  obtain ⟨d, inf, z, h1, h2, h3, h4, h5, h6, h7, h8⟩ := fits_info h
  rw [h1]
  rw [hk] at h3
  cases d <;> simp_all [TK.fits]
theorem aint_run {op : BinOp} {k : IntKind} {a b : Int} {x : A} (t : TypeId) (h : aint op k a b = some x) (hs : ¬ (op = .shl ∨ op = .shr)) :
    ∃ v, (∀ w, (binOp op t (.int k a) (.int k b)).run P w = .ok v w) ∧ Rel w S φ x v [] := by
  cases op <;> simp only [aint, Option.some.injEq, reduceCtorEq] at h
  all_goals first
    | (subst h; exact ⟨.int _ _, fun w => by simp [binOp, Op.intArith, Op.intBits], .int _ _⟩)
    | (subst h; exact ⟨.bool _, fun w => by simp [binOp, Op.intCmp], .bool _⟩)
    | skip
  · split at h
    · cases h
    · injection h with h; subst h; rename_i hb; exact ⟨.int _ _, fun w => by simp [binOp, Op.intDiv, hb], .int _ _⟩
  · split at h
    · cases h
    · injection h with h; subst h; rename_i hb; exact ⟨.int _ _, fun w => by simp [binOp, Op.intDiv, hb], .int _ _⟩
theorem abin_run {T : Tab} (hT : T.ok P) {op : BinOp} {x y z : A} {u v : Value} (t : TypeId) (h : abin T op t x y = some z) (hx : Rel w S φ x u []) (hy : Rel w S φ y v []) :
    ∃ r, (∀ X Y w, (do eqGuard op t X Y u v; binOp op t u v : Sem Value).run P w = .ok r w) ∧ Rel w S φ z r [] := by
  unfold abin at h
  split at h
  · rename_i k a k' b
    cases hx; cases hy
    split at h
    · rename_i hop
      unfold ashift at h
      split at h
      · cases h
      · rename_i hb
        rcases hop with rfl | rfl
        · injection h with h; subst h; exact ⟨.int _ _, fun X Y w => by simp [eqGuard_at_int, binOp, Op.shift, hb], .int _ _⟩
        · injection h with h; subst h; exact ⟨.int _ _, fun X Y w => by simp [eqGuard_at_int, binOp, Op.shift, hb], .int _ _⟩
    · rename_i hop
      split at h
      · rename_i hk; subst hk
        obtain ⟨r, h1, h2⟩ := aint_run (P := P) (w := w) (S := S) (φ := φ) t h hop
        exact ⟨r, fun X Y w => by simp [eqGuard_at_int, h1], h2⟩
      · cases h
  · cases hx; cases hy
    have hb : ∀ {i : TI}, T t = some i → i.kind = .bool → ∀ (a b : Bool) w, (Op.equal t (.bool a) (.bool b)).run P w = .ok (a == b) w := fun hi hk a b w => by
      have hu := under_bool (hT _ _ hi) hk
      show (Op.equalIn (9999 + 1) t (.bool a) (.bool b)).run P w = _
      unfold Op.equalIn
      simp [run_underlying hu]
    split at h
    · rename_i hk
      obtain ⟨i, hi, hk⟩ := Option.map_eq_some_iff.1 hk
      injection h with h; subst h; exact ⟨.bool _, fun X Y w => by simp [eqGuard_at_bool, binOp, hb hi hk], .bool _⟩
    · rename_i hk
      obtain ⟨i, hi, hk⟩ := Option.map_eq_some_iff.1 hk
      injection h with h; subst h; exact ⟨.bool _, fun X Y w => by simp [eqGuard_at_bool, binOp, hb hi hk], .bool _⟩
    · cases h
  · cases hx; cases hy
    split at h
    · injection h with h; subst h; exact ⟨.bool _, fun X Y w => by simp [eqGuard_at_string, binOp, Op.stringOp], .bool _⟩
    · injection h with h; subst h; exact ⟨.bool _, fun X Y w => by simp [eqGuard_at_string, binOp, Op.stringOp], .bool _⟩
    · cases h
  · cases h
end

/-! ### Cells of a struct put together -/
def fillA (places : List (Nat × Nat)) : List A → List (Nat × A) → Option (List A)
  | cells, [] => some cells
  | cells, (i, x) :: rest =>
    match places[i]?, cellsOf x with
    | some (off, size), some cs => if cs.length = size ∧ off + size ≤ cells.length then fillA places (cells.take off ++ (cs ++ cells.drop (off + size))) rest else none
    | _, _ => none
theorem take_set_succ {α : Type} (L : List α) (i : Nat) (v : α) (h : i < L.length) : (L.set i v).take (i + 1) = L.take i ++ [v] := by
  apply List.ext_getElem?
  intro k
  by_cases h1 : k < i
  · rw [List.getElem?_take_of_lt (by omega), List.getElem?_set_ne (by omega), List.getElem?_append_left (by simp only [List.length_take]; omega), List.getElem?_take_of_lt h1]
  · by_cases h2 : k = i
    · subst h2
      rw [List.getElem?_take_of_lt (by omega), List.getElem?_set_self h, List.getElem?_append_right (by simp only [List.length_take]; omega)]
      simp [show min k L.length = k by omega]
    · rw [List.getElem?_eq_none (by simp only [List.length_take, List.length_set]; omega), List.getElem?_eq_none (by simp only [List.length_append, List.length_take, List.length_cons, List.length_nil]; omega)]
theorem drop_set_lt {α : Type} (L : List α) (i k : Nat) (v : α) (h : i < k) : (L.set i v).drop k = L.drop k := by
  apply List.ext_getElem?
  intro m
  rw [List.getElem?_drop, List.getElem?_drop, List.getElem?_set_ne (by omega)]
theorem foldl_set (l : List Value) : ∀ (off n : Nat) (cells : Array Value), off + n + l.length ≤ cells.size →
    ((l.zipIdx n).foldl (fun cs (x : Value × Nat) => cs.setIfInBounds (off + x.2) x.1) cells).toList = cells.toList.take (off + n) ++ (l ++ cells.toList.drop (off + n + l.length)) := by
  induction l with
  | nil => intro off n cells h; simp
  | cons v l ih =>
    intro off n cells h
    simp only [List.length_cons] at h
    rw [List.zipIdx_cons, List.foldl_cons, ih off (n + 1) _ (by simp; omega)]
    simp only [Array.toList_setIfInBounds, List.length_cons]
    rw [show off + (n + 1) = off + n + 1 by omega, take_set_succ _ _ _ (by simp; omega), drop_set_lt _ _ _ _ (by omega)]
    simp [show off + n + 1 + l.length = off + n + (l.length + 1) by omega]
section
variable {w : World} {S : Nat → Prop} {φ : List (Option Loc)}
theorem fillA_rel {env : List (Nat × A)} {a : Act} (he : ∀ x, Rel w S φ (ev env x) (a.eval x) []) {places : List (Nat × Nat)} {ps : List (Nat × Operand)} {cells out : List A} {vcells : Array Value}
    (hc : RelL w S φ cells vcells.toList []) (h : fillA places cells (ps.map fun p => (p.1, ev env p.2)) = some out) :
    ∃ vout, Instr.fill (places[·]?) vcells (ps.map fun p => (p.1, a.eval p.2)) = some vout ∧ RelL w S φ out vout.toList [] := by
  induction ps generalizing cells vcells with
  | nil => simp [fillA] at h; subst h; exact ⟨vcells, rfl, hc⟩
  | cons p ps ih =>
    obtain ⟨i, x⟩ := p
    have hx := he x
    generalize hv : a.eval x = v at hx
    simp only [List.map_cons, fillA] at h
    simp only [List.map_cons, hv]
    split at h
    · rename_i off size cs h1 h2
      split at h
      · rename_i h3
        have hcs := cells_rel hx h2
        have hl := hcs.length
        have hl2 := hc.length
        have hvs : v.cells.size = size := by rw [← h3.1, hl]; simp
        have hsz : ¬ (off + v.cells.size > vcells.size) := by rw [hvs]; have : vcells.size = cells.length := by simp [hl2]
                                                              omega
        have hset : (v.cells.zipIdx.foldl (fun cs (x : Value × Nat) => cs.setIfInBounds (off + x.2) x.1) vcells).toList = vcells.toList.take off ++ (v.cells.toList ++ vcells.toList.drop (off + size)) := by
          have := foldl_set v.cells.toList off 0 vcells (by simp; omega)
          simp only [Nat.add_zero, Array.length_toList, hvs] at this
          rw [← this, ← Array.foldl_toList]
          simp
        obtain ⟨vout, h5, h6⟩ := ih (cells := cells.take off ++ (cs ++ cells.drop (off + size))) (vcells := v.cells.zipIdx.foldl (fun cs (x : Value × Nat) => cs.setIfInBounds (off + x.2) x.1) vcells)
          (by rw [hset]; exact (hc.take off).append (f := []) (g := []) (hcs.append (f := []) (g := []) (hc.drop _))) h
        refine ⟨vout, ?_, h6⟩
        simp only [Instr.fill, h1]
        rw [if_neg (by simp [hvs]; omega)]
        exact h5
      · cases h
    · cases h
end
end Go.Proofs.Ytpdhoimpbiehkaa.Ab
