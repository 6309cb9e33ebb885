/- What operations make of abstract values. -/
import Derived.Test.YtpdhoimpbiehkaaAbAbs
namespace Go.Proofs.Ytpdhoimpbiehkaa.Ab
open Go
set_option linter.unusedVariables false
set_option linter.unusedSimpArgs false

/-! ### Types -/
inductive TK where
  | int (k : IntKind)
  | bool
  | str
  | slice (e : Nat)
  | ptr (e : Nat)
  | struct (fs : List (Nat × Nat))   -- of each field: its place, its cells
  | other
  deriving DecidableEq
structure TI where
  kind : TK
  size : Nat
  bytes : Nat
  zero : List A

def simple : A → Value → Bool
  | .int k n, .int k' n' => decide (k = k') && decide (n = n')
  | .bool b, .bool b' => b == b'
  | .str s, .string s' => s.data.toList == s'.data.toList
  | .nils, .slice none 0 0 => true
  | .nilp, .pointer none => true
  | .any, _ => true
  | _, _ => false
def simples : List A → List Value → Bool
  | [], [] => true
  | a :: as, v :: vs => simple a v && simples as vs
  | _, _ => false
def TK.fits (P : Program) : TK → TypeDesc → Bool
  | .int k, .int k' => decide (k = k')
  | .bool, .bool => true
  | .str, .string => true
  | .slice e, .slice e' => e == e'
  | .ptr e, .pointer e' => e == e'
  | .struct fs, .struct fields => fields.toList.map (fun f => (f.offset, ((P.info? f.type).map (·.size)).getD 0)) == fs && fs.all (fun f => f.2 != 0)
  | .other, .struct _ => false
  | .other, .array _ _ => false
  | .other, _ => true
  | _, _ => false
def TI.fits (P : Program) (t : Nat) (i : TI) : Bool :=
  match P.underlying t, P.info? t with
  | some d, some inf => i.kind.fits P d && inf.size == i.size && inf.bytes == i.bytes && (i.zero.length == i.size && match inf.zero with | some z => simples i.zero z.cells.toList | none => false)
  | _, _ => false
abbrev Tab := Nat → Option TI
def Tab.ok (P : Program) (T : Tab) : Prop := ∀ t i, T t = some i → i.fits P t = true
def tabOf : List (Nat × TI) → Tab
  | [], _ => none
  | (u, i) :: r, t => if Nat.beq t u then some i else tabOf r t
theorem tabOf_ok {P : Program} {l : List (Nat × TI)} (h : l.all (fun x => x.2.fits P x.1) = true) : Tab.ok P (tabOf l) := by
  induction l with
  | nil => intro t i hi; simp [tabOf] at hi
  | cons x l ih =>
    obtain ⟨u, j⟩ := x
    simp only [List.all_cons, Bool.and_eq_true] at h
    intro t i hi
    unfold tabOf at hi
    split at hi
    · rename_i e
      have := Nat.eq_of_beq_eq_true e
      subst this
      injection hi with hi
      subst hi
      exact h.1
    · exact ih h.2 t i hi

section types
variable {P : Program} {t : Nat} {i : TI}
theorem fits_info (h : i.fits P t = true) : ∃ d inf z, P.underlying t = some d ∧ P.info? t = some inf ∧ i.kind.fits P d = true ∧ inf.size = i.size ∧ inf.bytes = i.bytes ∧ inf.zero = some z ∧ simples i.zero z.cells.toList = true ∧ i.zero.length = i.size := by
  unfold TI.fits at h
  split at h
  · rename_i d inf h1 h2
    cases hz : inf.zero with
    | none => simp [hz] at h
    | some z =>
      simp only [hz, Bool.and_eq_true, beq_iff_eq] at h
      exact ⟨d, inf, z, h1, h2, h.1.1.1, h.1.1.2, h.1.2, hz, h.2.2, h.2.1⟩
  · cases h
theorem run_sizeOf_fit (h : i.fits P t = true) (w : World) : (sizeOf t).run P w = .ok i.size w := by
  obtain ⟨d, inf, z, h1, h2, h3, h4, h5, h6, h7, h8⟩ := fits_info h
  simp [sizeOf, typeInfo, h2, h4]
theorem run_zero_fit (h : i.fits P t = true) : ∃ z, simples i.zero z.cells.toList = true ∧ ∀ w, (zeroValue t).run P w = .ok z w := by
  obtain ⟨d, inf, z, h1, h2, h3, h4, h5, h6, h7, h8⟩ := fits_info h
  exact ⟨z, h7, fun w => by simp [zeroValue, typeInfo, h2, h6]⟩
theorem under_slice {e : Nat} (h : i.fits P t = true) (hk : i.kind = .slice e) : P.underlying t = some (.slice e) := by
  obtain ⟨d, inf, z, h1, h2, h3, h4, h5, h6, h7, h8⟩ := fits_info h
  rw [h1]
  rw [hk] at h3
  cases d <;> simp_all [TK.fits]
theorem under_int {k : IntKind} (h : i.fits P t = true) (hk : i.kind = .int k) : P.underlying t = some (.int k) := by
  obtain ⟨d, inf, z, h1, h2, h3, h4, h5, h6, h7, h8⟩ := fits_info h
  rw [h1]
  rw [hk] at h3
  cases d <;> simp_all [TK.fits]
def TK.agg : TK → Bool
  | .struct _ => true
  | _ => false
theorem run_isAgg_fit (h : i.fits P t = true) (w : World) : (isAgg t).run P w = .ok i.kind.agg w := by
  obtain ⟨d, inf, z, h1, h2, h3, h4, h5, h6, h7, h8⟩ := fits_info h
  unfold isAgg
  rw [Sem.run_bind, run_underlying h1 w]
  cases hk : i.kind <;> rw [hk] at h3 <;> cases d <;> simp_all [TK.fits, TK.agg]
theorem simples_rel {w : World} {S : Nat → Prop} {φ : List (Option Loc)} {as : List A} {vs : List Value} (h : simples as vs = true) : RelL w S φ as vs [] := by
  induction as generalizing vs with
  | nil => cases vs with | nil => exact .nil | cons v vs => simp [simples] at h
  | cons a as ih =>
    cases vs with
    | nil => simp [simples] at h
    | cons v vs =>
      simp only [simples, Bool.and_eq_true] at h
      refine .cons (f := []) (fs := []) ?_ (ih h.2)
      have h1 := h.1
      unfold simple at h1
      split at h1
      · simp only [Bool.and_eq_true, decide_eq_true_eq] at h1; rw [h1.1, h1.2]; exact .int _ _
      · simp only [beq_iff_eq] at h1; rw [h1]; exact .bool _
      · simp only [beq_iff_eq] at h1
        rename_i s s'
        obtain rfl : s = s' := by cases s; cases s'; simp_all [Array.ext_iff]
        exact .str _
      · exact .nils
      · exact .nilp
      · exact .any _
      · cases h1
end types

/-! ### Operands -/
def absV : Value → A
  | .int k n => .int k n
  | .bool b => .bool b
  | .string s => .str s
  | .slice none 0 0 => .nils
  | .pointer none => .nilp
  | _ => .any
def ev (env : List (Nat × A)) : Operand → A
  | .tmp t => look env t
  | .const v => absV v
  | .global _ => .any
  | .func f => .fn f []
def cellsOf : A → Option (List A)
  | .agg cs => some cs
  | .any => none
  | .tup _ => none
  | a => some [a]
/-- The value of one cell. -/
def okc : A → Bool
  | .agg _ => false
  | .tup _ => false
  | .any => false
  | _ => true
section operands
variable {w : World} {S : Nat → Prop} {φ : List (Option Loc)}
theorem absV_rel (v : Value) : Rel w S φ (absV v) v [] := by
  unfold absV
  split
  · exact .int _ _
  · exact .bool _
  · exact .str _
  · exact .nils
  · exact .nilp
  · exact .any _
theorem ev_rel {S0 : Nat → Prop} {st : St} {a : Act} {fs : List Nat} (h : SRel S0 st a w φ fs) (x : Operand) : Rel w (Sof S0 fs) φ (ev st.env x) (a.eval x) [] := by
  cases x with
  | tmp t => exact h.env t
  | const v => exact absV_rel v
  | global g => exact .any _
  | func f => exact .fn .nil
theorem cells_rel {a : A} {v : Value} {f : List Nat} {cs : List A} (h : Rel w S φ a v f) (hc : cellsOf a = some cs) : RelL w S φ cs v.cells.toList f := by
  have one : ∀ {a v f}, Rel w S φ a v f → v.cells = #[v] → RelL w S φ [a] v.cells.toList f := fun h e => by
    rw [e]; simpa using RelL.cons h .nil
  cases h <;> simp only [cellsOf, Option.some.injEq, reduceCtorEq] at hc
  all_goals first
    | (subst hc; exact one (by constructor <;> assumption) rfl)
    | (subst hc; simpa [Value.cells] using ‹RelL _ _ _ _ _ _›)
theorem okc_one {a : A} {v : Value} {f : List Nat} (h : Rel w S φ a v f) (hc : okc a = true) : v.oneCell' = true := by
  cases h <;> simp_all [okc, Value.oneCell']
theorem okc_all {as : List A} {vs : List Value} {f : List Nat} (h : RelL w S φ as vs f) (hc : as.all okc = true) : ∀ v ∈ vs, v.oneCell' = true := by
  induction as generalizing vs f with
  | nil => cases h; simp
  | cons a as ih =>
    cases h with
    | cons h hs =>
      simp only [List.all_cons, Bool.and_eq_true] at hc
      intro v hv
      rcases List.mem_cons.1 hv with rfl | hv
      · exact okc_one h hc.1
      · exact ih hs hc.2 v hv
end operands

/-! ### States that change -/
theorem SRel.put {S0 : Nat → Prop} {st : St} {a : Act} {w : World} {φ : List (Option Loc)} {fs : List Nat} (h : SRel S0 st a w φ fs) {x : A} {v : Value} (hv : Rel w (Sof S0 fs) φ x v []) {d : Nat} (hd : d < st.n) :
    SRel S0 (st.put d x) (a.put (some d) v) w φ fs where
  defers := by simpa [Act.put] using h.defers
  size := by simpa [Act.put, St.put] using h.size
  env := fun i => by
    have hs := h.size
    by_cases hi : i = d
    · subst hi
      have : (a.put (some i) v).tmps.getD i undef = v := by simp [Act.put, Array.getD, hs, hd]
      rw [this]
      simpa [St.put, look] using hv
    · have : (a.put (some d) v).tmps.getD i undef = a.tmps.getD i undef := by
        simp only [Act.put, Array.getD_eq_getD_getElem?]
        rw [Array.getElem?_setIfInBounds_ne (fun e => hi e.symm)]
      rw [this]
      have hb : Nat.beq i d = false := by cases hb : Nat.beq i d; rfl; exact absurd (Nat.eq_of_beq_eq_true hb) hi
      simpa [St.put, look, hb] using h.env i
  heap := h.heap
  nodup := h.nodup
  apart := h.apart
  low := h.low
/-- What was known is known where other blocks changed. -/
theorem SRel.env_frame {S0 : Nat → Prop} {st : St} {a : Act} {w w' : World} {φ φ' : List (Option Loc)} {fs fs' : List Nat} {T : Nat → Prop} (h : SRel S0 st a w φ fs) (hw : Fr T w w') (hT : ∀ b, T b → b ∈ fs)
    (hs : ∀ b, b ∈ fs' → b ∈ fs ∨ w.heap.size ≤ b) (hφ : Ext φ φ') : ∀ i, Rel w' (Sof S0 fs') φ' (look st.env i) (a.tmps.getD i undef) [] :=
  fun i => (h.env i).frame hw (fun b hb => hb.elim (fun h0 => .inl (.inl h0)) (fun hb => (hs b hb).elim (fun h1 => .inl (.inr h1)) .inr)) (fun b hb => .inr (hT b hb)) hφ (by simp)
end Go.Proofs.Ytpdhoimpbiehkaa.Ab
