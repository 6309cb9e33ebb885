/- Walking a function's text over abstract states. -/
import Derived.Test.YtpdhoimpbiehkaaAbCal2
import Derived.Tactics
namespace Go.Proofs.Ytpdhoimpbiehkaa.Ab
open Go
set_option linter.unusedVariables false
set_option linter.unusedSimpArgs false

/-- What is left to do. -/
inductive It where
  | code (c : Code)
  | ops (all : Array Oper) (l : List Oper)
  | blk (id : Nat)
  | upto (J : Act → World → Prop)
def cont (P : Program) : List It → (Exit → Act → World → Prop) → Exit → Act → World → Prop
  | [], Q => Q
  | .code c :: k, Q => Exit.then (fun a w => c.wp P (cont P k Q) a w) (cont P k Q)
  | .ops all l :: k, Q => Exit.then (fun a w => wpList P all (cont P k Q) l a w) (cont P k Q)
  | .blk id :: k, Q => Exit.inBlock id (cont P k Q)
  | .upto J :: k, Q => Exit.then J (cont P k Q)
/-- A call under way: the program, the table of types, memory that it leaves alone, and how it began. -/
structure Cx where
  P : Program
  T : Tab
  S0 : Nat → Prop
  w0 : World
  fs0 : List Nat
  φ0 : List (Option Loc)
  Q : Exit → Act → World → Prop
def Bnd (c : Cx) (w : World) (φ : List (Option Loc)) (fs : List Nat) : Prop := Fr (fun g => g ∈ c.fs0) c.w0 w ∧ (∀ b ∈ fs, b ∈ c.fs0 ∨ c.w0.heap.size ≤ b) ∧ Ext c.φ0 φ
/-- From this state on, what is left to do does what is asked for. -/
def G (c : Cx) (k : List It) (st : St) : Prop := ∀ a w φ fs, SRel c.S0 st a w φ fs → Bnd c w φ fs → cont c.P k c.Q .normal a w

section
variable {c : Cx} {k : List It} {st : St}
theorem Bnd.step {w w' : World} {φ φ' : List (Option Loc)} {fs fs' : List Nat} {T : Nat → Prop} (h : Bnd c w φ fs) (hw : Fr T w w') (hT : ∀ b, T b → b ∈ fs) (hs : ∀ b ∈ fs', b ∈ fs ∨ w.heap.size ≤ b) (hφ : Ext φ φ') : Bnd c w' φ' fs' :=
  ⟨h.1.trans hw (fun x hx => h.2.1 x (hT x hx)), fun b hb => (hs b hb).elim (h.2.1 b) (fun hb => .inr (Nat.le_trans h.1.size hb)), h.2.2.trans hφ⟩
theorem G.skip (h : G c k st) : G c (.code .skip :: k) st := fun a w φ fs hs hb => wp_skip (h a w φ fs hs hb)
theorem G.seq {x y : Code} (h : G c (.code x :: .code y :: k) st) : G c (.code (.seq x y) :: k) st := fun a w φ fs hs hb => wp_seq (h a w φ fs hs hb)
theorem G.block {id : Nat} {b : Code} (h : G c (.code b :: .blk id :: k) st) : G c (.code (.block id b) :: k) st := fun a w φ fs hs hb => wp_block (h a w φ fs hs hb)
theorem G.blk {id : Nat} (h : G c k st) : G c (.blk id :: k) st := fun a w φ fs hs hb => h a w φ fs hs hb
def popTo (id : Nat) : List It → Option (List It)
  | [] => none
  | .blk id' :: k => if id' = id then some k else popTo id k
  | _ :: k => popTo id k
theorem cont_exit {P : Program} {Q : Exit → Act → World → Prop} {id : Nat} {k k' : List It} (h : popTo id k = some k') {a : Act} {w : World} (hk : cont P k' Q .normal a w) : cont P k Q (.exit id) a w := by
  induction k with
  | nil => cases h
  | cons i k ih =>
    cases i with
    | code c => exact ih h
    | ops all l => exact ih h
    | upto J => exact ih h
    | blk id' =>
      simp only [popTo] at h
      split at h
      · rename_i e
        injection h with h
        subst h e
        simpa [cont, Exit.inBlock] using hk
      · rename_i e
        have := ih h
        have e' : ¬ id = id' := fun x => e x.symm
        simp only [cont, Exit.inBlock]
        first
          | (rw [if_neg e']; exact this)
          | (rw [if_neg e]; exact this)
          | (simp [e, e']; exact this)
theorem G.exit {id : Nat} {k' : List It} (h : popTo id k = some k') (hk : G c k' st) : G c (.code (.exit id) :: k) st := fun a w φ fs hs hb => wp_exit (cont_exit h (hk a w φ fs hs hb))
theorem cont_ret {P : Program} {Q : Exit → Act → World → Prop} {k : List It} {a : Act} {w : World} (h : Q .ret a w) : cont P k Q .ret a w := by
  induction k with
  | nil => exact h
  | cons i k ih => cases i <;> exact ih
theorem G.ret (h : ∀ a w φ fs, SRel c.S0 st a w φ fs → Bnd c w φ fs → c.Q .ret a w) : G c (.code .ret :: k) st := fun a w φ fs hs hb => wp_ret (cont_ret (h a w φ fs hs hb))
theorem G.if_ {o : Operand} {x y : Code} {t : Bool} (he : ev st.env o = .bool t) (h1 : t = true → G c (.code x :: k) st) (h2 : t = false → G c (.code y :: k) st) : G c (.code (.cond o x y) :: k) st := by
  intro a w φ fs hs hb
  have hv := ev_rel hs o
  rw [he] at hv
  generalize hq : a.eval o = v at hv
  cases hv
  exact wp_cond_split hq (fun e => h1 e a w φ fs hs hb) (fun e => h2 e a w φ fs hs hb)
theorem G.region {id : Nat} {ops : Array Oper} (h : G c (.ops ops ops.toList :: k) st) : G c (.code (.region id ops false) :: k) st := fun a w φ fs hs hb => wp_region_list (h a w φ fs hs hb)
theorem G.opsNil {all : Array Oper} (h : G c k st) : G c (.ops all [] :: k) st := fun a w φ fs hs hb => h a w φ fs hs hb

/-- What is known may be forgotten. -/
theorem G.forget {env : List (Nat × A)} (he : ∀ i, look env i = .any ∨ look env i = look st.env i) (h : G c k { st with env := env }) : G c k st := by
  intro a w φ fs hs hb
  refine h a w φ fs ⟨hs.defers, hs.size, fun i => ?_, hs.heap, hs.nodup, hs.apart, hs.low⟩ hb
  rcases he i with e | e
  · simp only; rw [e]; exact .any _
  · simp only; rw [e]; exact hs.env i
end

/-! ### One operation that is no call -/
def St.putO (st : St) (d : Option Nat) (x : A) : Option St :=
  match d with
  | some d => if d < st.n then some (st.put d x) else none
  | none => some st
def withH (st : St) (h : Heap) : St := { st with heap := h }
def step1 (T : Tab) (st : St) (o : Oper) : Option St :=
  match o.op with
  | .alloc _ | .box _ _ | .buildSlice _ _ _ | .makeSlice _ _ _ => match anew T st.env o.op with
    | some (b, true) => (withH st (hput st.heap st.heap.length b)).putO o.dst (.sl st.heap.length 0 b.2.length)
    | some (b, false) => (withH st (hput st.heap st.heap.length b)).putO o.dst (.ptr st.heap.length 0 0)
    | none => none
  | .store _ _ _ => match astore T st.env st.heap o.op with
    | some (m, b) => (withH st (st.heap.set m (some b))).putO o.dst .any
    | none => none
  | .call { callee := .builtin .append, .. } => match aappend T st.env st.heap o.op with
    | some (b, k) => (withH st (hput (hkill st.heap k) st.heap.length b)).putO o.dst (.sl st.heap.length 0 b.2.length)
    | none => none
  | op => match aval1 T st.env st.heap op with
    | some x => st.putO o.dst x
    | none => none

section
variable {c : Cx} {k : List It} {st st' : St} {all : Array Oper} {o : Oper} {l : List Oper}

theorem SRel.putO {S0 : Nat → Prop} {st st' : St} {a : Act} {w : World} {φ : List (Option Loc)} {fs : List Nat} (h : SRel S0 st a w φ fs) {x : A} {v : Value} (hv : Rel w (Sof S0 fs) φ x v []) {d : Option Nat} (hp : st.putO d x = some st') :
    SRel S0 st' (a.put d v) w φ fs := by
  cases d with
  | none => simp [St.putO] at hp; subst hp; simpa [Act.put] using h
  | some d =>
    simp only [St.putO] at hp
    split at hp
    · rename_i hd; injection hp with hp; subst hp; exact h.put hv hd
    · cases hp

theorem step1_run {P : Program} {T : Tab} (hT : T.ok P) {S0 : Nat → Prop} {a : Act} {w : World} {φ : List (Option Loc)} {fs : List Nat} (h : SRel S0 st a w φ fs) (hs : step1 T st o = some st') :
    ∃ (nx : Next) (w' : World) (φ' : List (Option Loc)) (fs' : List Nat) (v : Value), (execOp a.eval o).run P w = .ok nx w' ∧ (nx = .value v ∨ (nx = .skip ∧ v = undef)) ∧ SRel S0 st' (a.put o.dst v) w' φ' fs' ∧ Fr (fun g => g ∈ fs) w w' ∧ (∀ b ∈ fs', b ∈ fs ∨ w.heap.size ≤ b) ∧ Ext φ φ' := by
  have hlen := h.heap.length
  have plain : (match aval1 T st.env st.heap o.op with | some x => st.putO o.dst x | none => none) = some st' → ∃ (nx : Next) (w' : World) (φ' : List (Option Loc)) (fs' : List Nat) (v : Value), (execOp a.eval o).run P w = .ok nx w' ∧ (nx = .value v ∨ (nx = .skip ∧ v = undef)) ∧ SRel S0 st' (a.put o.dst v) w' φ' fs' ∧ Fr (fun g => g ∈ fs) w w' ∧ (∀ b ∈ fs', b ∈ fs ∨ w.heap.size ≤ b) ∧ Ext φ φ' := by
    intro hp
    split at hp
    · rename_i x hx
      obtain ⟨v, h1, h2⟩ := aval1_run hT h hx
      exact ⟨_, w, φ, fs, v, h1, .inl rfl, h.putO h2 hp, Fr.refl _ w, fun b hb => .inl hb, Ext.refl φ⟩
    · cases hp
  have new : ∀ (hq : (match anew T st.env o.op with
      | some (b, true) => (withH st (hput st.heap st.heap.length b)).putO o.dst (.sl st.heap.length 0 b.2.length)
      | some (b, false) => (withH st (hput st.heap st.heap.length b)).putO o.dst (.ptr st.heap.length 0 0)
      | none => none) = some st'), ∃ (nx : Next) (w' : World) (φ' : List (Option Loc)) (fs' : List Nat) (v : Value), (execOp a.eval o).run P w = .ok nx w' ∧ (nx = .value v ∨ (nx = .skip ∧ v = undef)) ∧ SRel S0 st' (a.put o.dst v) w' φ' fs' ∧ Fr (fun g => g ∈ fs) w w' ∧ (∀ b ∈ fs', b ∈ fs ∨ w.heap.size ≤ b) ∧ Ext φ φ' := by
    intro hq
    have hf : hfree st.heap φ st.heap.length := .inl rfl
    cases hn : anew T st.env o.op with
    | none => rw [hn] at hq; cases hq
    | some r =>
      obtain ⟨⟨sz, es⟩, sl⟩ := r
      obtain ⟨arr, ty, h1, h2, h3, h4, h5⟩ := anew_run (P := P) hT h hn
      obtain ⟨fs', g1, g2, g3, g4, g5⟩ := h.newBlk hf (ty := ty) (sz := sz) (cap := es.length) h2 h3 (fun k v hk => by simpa using hk) h4 (Nat.le_refl _)
      cases sl with
      | true =>
        rw [hn] at hq
        refine ⟨_, _, _, fs', _, h1, .inl rfl, g1.putO ?_ hq, g2.mono (fun _ h => h.elim), g3, g4⟩
        have := Rel.sl (w := w.alloc (.cells arr ty)) (S := Sof S0 fs') (lo := 0) (len := es.length) (c := es.length) (a := some ⟨w.heap.size, 0, none⟩) g5 (by simp) (Nat.le_refl _) (fun _ => by simp)
        simpa using this
      | false =>
        rw [hn] at hq
        refine ⟨_, _, _, fs', _, h1, .inl rfl, g1.putO ?_ hq, g2.mono (fun _ h => h.elim), g3, g4⟩
        have := Rel.ptr (w := w.alloc (.cells arr ty)) (S := Sof S0 fs') (i := 0) (j := 0) g5
        simpa using this
  unfold step1 at hs
  split at hs
  · exact new hs
  · exact new hs
  · exact new hs
  · exact new hs
  · split at hs
    · rename_i m b hv
      obtain ⟨w', fs', h1, h2, h3, h4⟩ := astore_run hT h hv
      exact ⟨_, w', φ, fs', undef, h1, .inr ⟨rfl, rfl⟩, h2.putO (.any _) hs, h3, fun b hb => .inl (h4.subset hb), Ext.refl φ⟩
    · cases hs
  · split at hs
    · rename_i b kk hv
      obtain ⟨sz, es⟩ := b
      obtain ⟨v, w', φ', fs', h1, h2, h3, h4, h5, h6⟩ := aappend_run hT h (.inl rfl) hv
      exact ⟨_, w', φ', fs', v, h1, .inl rfl, h2.putO h6 hs, h3, h4, h5⟩
    · cases hs
  · exact plain hs

theorem G.op (hT : c.T.ok c.P) (hg : o.guard = none) (hs : step1 c.T st o = some st') (h : G c (.ops all l :: k) st') : G c (.ops all (o :: l) :: k) st := by
  intro a w φ fs hr hb
  obtain ⟨nx, w', φ', fs', v, h1, h2, h3, h4, h5, h6⟩ := step1_run hT hr hs
  have hn := h (a.put o.dst v) w' φ' fs' h3 (hb.step h4 (fun _ h => h) h5 h6)
  show wpList c.P all (cont c.P k c.Q) (o :: l) a w
  simp only [wpList]
  rw [if_pos (by simp [Region.wanted, hg])]
  refine .inl ?_
  unfold Oper.wp
  rw [h1]
  rcases h2 with rfl | ⟨rfl, rfl⟩
  · exact hn
  · exact hn
/-- An operation that is not wanted. -/
theorem yielded_bool {S0 : Nat → Prop} {a : Act} {w : World} {φ : List (Option Loc)} {fs : List Nat} (h : SRel S0 st a w φ fs) {j d : Nat} {b : Bool} (hd : (all[j]?).bind (·.dst) = some d) (hv : look st.env d = .bool b) (hlt : d < st.n) :
    yielded all a.tmps j = some b := by
  have hr := h.env d
  rw [hv] at hr
  have hs := h.size
  unfold yielded
  rw [hd]
  have hget : a.tmps[d]? = some (a.tmps.getD d undef) := by simp [Array.getD, hs, hlt]
  simp only [Option.bind_some, hget]
  generalize a.tmps.getD d undef = v at hr
  cases hr
  rfl
theorem G.opG (hT : c.T.ok c.P) {j d : Nat} {want b : Bool} (hg : o.guard = some (j, want)) (hd : (all[j]?).bind (·.dst) = some d) (hv : look st.env d = .bool b) (hlt : d < st.n)
    (h1 : b = want → ∃ st', step1 c.T st o = some st' ∧ G c (.ops all l :: k) st') (h2 : b ≠ want → ∃ st', st.putO o.dst .any = some st' ∧ G c (.ops all l :: k) st') : G c (.ops all (o :: l) :: k) st := by
  intro a w φ fs hr hb
  have hy := yielded_bool hr hd hv hlt
  by_cases hbw : b = want
  · obtain ⟨st', hs, h⟩ := h1 hbw
    obtain ⟨nx, w', φ', fs', v, e1, e2, e3, e4, e5, e6⟩ := step1_run hT hr hs
    have hn := h (a.put o.dst v) w' φ' fs' e3 (hb.step e4 (fun _ h => h) e5 e6)
    show wpList c.P all (cont c.P k c.Q) (o :: l) a w
    simp only [wpList]
    rw [if_pos (by simp [Region.wanted, hg, hy, hbw])]
    refine .inl ?_
    unfold Oper.wp
    rw [e1]
    rcases e2 with rfl | ⟨rfl, rfl⟩
    · exact hn
    · exact hn
  · obtain ⟨st', hs, h⟩ := h2 hbw
    show wpList c.P all (cont c.P k c.Q) (o :: l) a w
    simp only [wpList]
    rw [if_neg (by simp [Region.wanted, hg, hy, hbw])]
    exact h _ w φ fs (hr.putO (.any _) hs) hb
end
end Go.Proofs.Ytpdhoimpbiehkaa.Ab
