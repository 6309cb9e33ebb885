/- Regions whose order is drawn: one order for all. -/
import Derived.Test.YtpdhoimpbiehkaaAbGrp2
import Derived.Orders
namespace Go.Proofs.Ytpdhoimpbiehkaa.Ab
open Go
set_option linter.unusedVariables false
set_option linter.unusedSimpArgs false

/-! ### What one operation yields -/
def eff (T : Tab) (K : Kn) (env : List (Nat × A)) (h : Heap) : Op → Option (A × Heap)
  | .alloc t => match anew T env (.alloc t) with
    | some (b, true) => some (.sl h.length 0 b.2.length, hput h h.length b)
    | some (b, false) => some (.ptr h.length 0 0, hput h h.length b)
    | none => none
  | .box t x => match anew T env (.box t x) with
    | some (b, true) => some (.sl h.length 0 b.2.length, hput h h.length b)
    | some (b, false) => some (.ptr h.length 0 0, hput h h.length b)
    | none => none
  | .buildSlice t n ps => match anew T env (.buildSlice t n ps) with
    | some (b, true) => some (.sl h.length 0 b.2.length, hput h h.length b)
    | some (b, false) => some (.ptr h.length 0 0, hput h h.length b)
    | none => none
  | .makeSlice t x y => match anew T env (.makeSlice t x y) with
    | some (b, true) => some (.sl h.length 0 b.2.length, hput h h.length b)
    | some (b, false) => some (.ptr h.length 0 0, hput h h.length b)
    | none => none
  | .store t p x => match astore T env h (.store t p x) with
    | some (m, b) => some (.any, h.set m (some b))
    | none => none
  | .call c => match c.callee with
    | .value fo => match ev env fo with
      | .fn fid caps => match K fid (vwL h (callArgs env c.args caps)) with
        | some res => if noLoan res || (pureL (callArgs env c.args caps) && noRefL (callArgs env c.args caps)) then some ((matA h.length res).1, h ++ (matA h.length res).2) else none
        | none => none
      | _ => none
    | .builtin .append => match aappend T env h (.call c) with
      | some (b, k) => some (.sl h.length 0 b.2.length, hput (hkill h k) h.length b)
      | none => none
    | _ => (aval1 T env h (.call c)).map fun x => (x, h)
  | op => (aval1 T env h op).map fun x => (x, h)
theorem eff_step2 {T : Tab} {K : Kn} {st st' : St} {o : Oper} {x : A} {h : Heap} (he : eff T K st.env st.heap o.op = some (x, h)) (hp : (withH st h).putO o.dst x = some st') : step2 T K st o = some st' := by
  obtain ⟨dst, op, ty, pos, af, g⟩ := o
  have plain : (match aval1 T st.env st.heap op with | some x => st.putO dst x | none => none) = none ∨ True := .inr trivial
  have wh : ∀ st : St, withH st st.heap = st := fun st => rfl
  cases op
  case call c =>
    obtain ⟨callee, args, at_⟩ := c
    unfold step2 step1
    cases callee with
    | value fo =>
      simp only [eff] at he
      split at he
      · rename_i fid caps hf
        split at he
        · rename_i res hk
          split at he
          · rename_i hc
            simp only [Option.some.injEq, Prod.mk.injEq] at he
            obtain ⟨rfl, rfl⟩ := he
            simp only [aval1, callV, hf, hk, hc, if_true]
            exact hp
          · cases he
        · cases he
      · cases he
    | invoke r m => simp [eff, aval1] at he
    | builtin b =>
      by_cases hb : b = .append
      · subst hb
        simp only [eff] at he
        split at he
        · rename_i b k hb
          simp only [Option.some.injEq, Prod.mk.injEq] at he
          obtain ⟨rfl, rfl⟩ := he
          simp only [hb]
          simp only at hp
          rw [hp]
        · cases he
      · have he2 : (aval1 T st.env st.heap (.call ⟨.builtin b, args, at_⟩)).map (fun x => (x, st.heap)) = some (x, h) := by
          cases b <;> first | exact absurd rfl hb | exact he
        cases hv : aval1 T st.env st.heap (.call ⟨.builtin b, args, at_⟩) with
        | none => rw [hv] at he2; cases he2
        | some y =>
          rw [hv] at he2
          simp only [Option.map_some, Option.some.injEq, Prod.mk.injEq] at he2
          obtain ⟨rfl, rfl⟩ := he2
          rw [wh] at hp
          simp only at hp
          cases b <;> first | exact absurd rfl hb | simp only [hv, hp]
  case store t p x =>
    simp only [eff] at he
    unfold step2 step1
    split at he
    · rename_i m b hb
      simp only [Option.some.injEq, Prod.mk.injEq] at he
      obtain ⟨rfl, rfl⟩ := he
      simp only at hp
      simp only [hb, hp]
    · cases he
  case alloc | box | buildSlice | makeSlice =>
    simp only [eff] at he
    unfold step2 step1
    split at he
    · rename_i b hb
      simp only [Option.some.injEq, Prod.mk.injEq] at he
      obtain ⟨rfl, rfl⟩ := he
      simp only at hp
      simp only [hb, hp]
    · rename_i b hb
      simp only [Option.some.injEq, Prod.mk.injEq] at he
      obtain ⟨rfl, rfl⟩ := he
      simp only at hp
      simp only [hb, hp]
    · cases he
  all_goals
    simp only [eff] at he
    unfold step2 step1
    obtain ⟨y, hv, he⟩ := Option.map_eq_some_iff.1 he
    simp only [Prod.mk.injEq] at he
    obtain ⟨rfl, rfl⟩ := he
    rw [wh] at hp
    simp only at hp
    simp only [hv, hp]

section congr
variable {T : Tab} {K : Kn} {env env' : List (Nat × A)} {h : Heap}
theorem eff_congr {op : Op} (hc : ∀ x ∈ op.operands, ev env x = ev env' x) : eff T K env h op = eff T K env' h op := by
  cases op <;> simp only [Op.operands] at hc
  case call c =>
    obtain ⟨callee, args, at_⟩ := c
    have ha : ∀ x ∈ args, ev env x = ev env' x := fun x hx => hc x (by simp [Call.operands, hx])
    have hargs : args.toList.map (ev env) = args.toList.map (ev env') := List.map_congr_left fun x hx => ha x (by simpa using hx)
    cases callee with
    | value f =>
      have hf : ev env f = ev env' f := hc f (by simp [Call.operands])
      simp only [eff, callArgs, hargs, hf]
      try rfl
    | invoke r m => simp only [eff, aval1]
    | builtin b =>
      have ha2 : ∀ x ∈ args.toList, ev env x = ev env' x := fun x hx => ha x (by simpa using hx)
      cases b <;> simp only [eff, aval1, aappend] <;> generalize args.toList = al at ha2 <;> rcases al with _ | ⟨x, _ | ⟨y, _ | ⟨z, l⟩⟩⟩ <;> first
        | rfl
        | (have e1 := ha2 x (by simp); simp only [e1]; done)
        | (have e1 := ha2 x (by simp); simp only [e1]; rfl)
        | (have e1 := ha2 x (by simp); generalize at_.toList = tl; rcases tl with _ | ⟨t, _ | ⟨u, _ | ⟨z, l⟩⟩⟩ <;> first | rfl | (simp only [e1]; done) | (simp only [e1]; rfl))
        | (have e1 := ha2 x (by simp); have e2 := ha2 y (by simp); simp only [e1, e2]; done)
        | (have e1 := ha2 x (by simp); have e2 := ha2 y (by simp); simp only [e1, e2]; rfl)
        | (have e1 := ha2 x (by simp); have e2 := ha2 y (by simp); generalize at_.toList = tl; rcases tl with _ | ⟨t, _ | ⟨u, _ | ⟨z, l⟩⟩⟩ <;> first | rfl | (simp only [e1, e2]; done) | (simp only [e1, e2]; rfl))
  case build t ps =>
    have : ps.toList.map (fun p => (p.1, ev env p.2)) = ps.toList.map (fun p => (p.1, ev env' p.2)) := List.map_congr_left fun p hp => by rw [hc p.2 (by simp; exact ⟨p.1, by simpa using hp⟩)]
    simp only [eff, aval1, this]
  case buildSlice t n ps =>
    have : ps.toList.map (fun p => (p.1, ev env p.2)) = ps.toList.map (fun p => (p.1, ev env' p.2)) := List.map_congr_left fun p hp => by rw [hc p.2 (by simp; exact ⟨p.1, by simpa using hp⟩)]
    simp only [eff, anew, this]
  case makeFunc fn first caps =>
    have : caps.toList.map (ev env) = caps.toList.map (ev env') := List.map_congr_left fun x hx => hc x (by simp at hx; simp [hx])
    simp only [eff, aval1, this]
  case slice t x lo hi mx =>
    have e1 : lo.map (ev env) = lo.map (ev env') := by cases lo with | none => rfl | some y => simp [hc y (by simp)]
    have e2 : hi.map (ev env) = hi.map (ev env') := by cases hi with | none => rfl | some y => simp [hc y (by simp)]
    have e3 : ev env x = ev env' x := hc x (by simp)
    simp only [eff, aval1, e1, e2, e3]
  all_goals first
    | rfl
    | (simp only [eff, aval1, anew, astore]; simp_all; done)
    | (simp only [eff, aval1, anew, astore]; have := hc; simp at this; simp only [this]; done)
end congr

/-- Reads alone. -/
def rdr : Op → Bool
  | .alloc _ | .box _ _ | .buildSlice _ _ _ | .makeSlice _ _ _ | .store _ _ _ => false
  | .call c => match c.callee with
    | .builtin .append => false
    | .builtin _ => true
    | _ => false
  | _ => true
/-- May write what was there before. -/
def mutOp : Op → Bool
  | .store _ _ _ => true
  | .call c => match c.callee with
    | .builtin .append => true
    | _ => false
  | _ => false
section
variable {T : Tab} {K : Kn} {env : List (Nat × A)} {h h' : Heap} {x : A} {op : Op}
theorem bsz_ext {m s : Nat} {e : Heap} (hs : bsz h m = some s) : bsz (h ++ e) m = some s := by
  unfold bsz at *
  split at hs
  · rename_i b hb
    have := (List.getElem?_eq_some_iff.1 hb).1
    rw [List.getElem?_append_left this, hb]
    exact hs
  · cases hs
theorem bes_ext {m r j n : Nat} {cs : List A} {e : Heap} (hs : rdCells (bes h m) r j n = some cs) : rdCells (bes (h ++ e) m) r j n = some cs := by
  have : bes (h ++ e) m = bes h m := by
    unfold bes at *
    split at hs
    · rename_i b hb
      have := (List.getElem?_eq_some_iff.1 hb).1
      rw [List.getElem?_append_left this, hb]
    · simp [rdCells] at hs
  rw [this]; exact hs
theorem aval1_ext (hv : aval1 T env h op = some x) (e : Heap) : aval1 T env (h ++ e) op = some x := by
  cases op <;> simp only [aval1, reduceCtorEq] at hv ⊢ <;> try exact hv
  case load t p =>
    split at hv
    · exact hv
    · rename_i i m r j hT hp
      split at hv
      · rename_i cs hr
        rw [bes_ext hr]
        exact hv
      · cases hv
    · cases hv
  case indexAddr t y ix =>
    split at hv
    · split at hv
      · exact hv
      · rename_i i m b len k n h1 h2 h3
        split at hv
        · rename_i hc
          rw [if_pos ⟨bsz_ext hc.1, hc.2⟩]
          exact hv
        · cases hv
      · cases hv
    · cases hv
  case slice t y lo hi mx =>
    split at hv
    · unfold aslice at hv ⊢
      split at hv
      · split at hv
        · exact hv
        · rename_i i m b len h1 h2
          split at hv
          · rename_i hc
            rw [if_pos (bsz_ext hc)]
            exact hv
          · cases hv
        · cases hv
      · cases hv
    · cases hv
theorem rdr_eff (hr : rdr op = true) (he : eff T K env h op = some (x, h')) : h' = h ∧ ∀ e, eff T K env (h ++ e) op = some (x, h ++ e) := by
  have go : (aval1 T env h op).map (fun x => (x, h)) = some (x, h') → (∀ e, eff T K env (h ++ e) op = (aval1 T env (h ++ e) op).map (fun x => (x, h ++ e))) → h' = h ∧ ∀ e, eff T K env (h ++ e) op = some (x, h ++ e) := by
    intro h1 h2
    obtain ⟨y, hv, he⟩ := Option.map_eq_some_iff.1 h1
    simp only [Prod.mk.injEq] at he
    obtain ⟨rfl, rfl⟩ := he
    exact ⟨rfl, fun e => by rw [h2 e, aval1_ext hv]; rfl⟩
  cases op <;> simp only [rdr, reduceCtorEq] at hr
  case call c =>
    obtain ⟨callee, args, at_⟩ := c
    cases callee with
    | value f => simp at hr
    | invoke r m => simp at hr
    | builtin b => cases b <;> first | (simp at hr; done) | exact go he (fun e => rfl)
  all_goals exact go he (fun e => rfl)
theorem hput_app (h : Heap) (b : Blk) : hput h h.length b = h ++ [some b] := by unfold hput; rw [if_neg (by omega)]
theorem ext_eff (hm : mutOp op = false) (he : eff T K env h op = some (x, h')) : ∃ e, h' = h ++ e := by
  by_cases hr : rdr op = true
  · exact ⟨[], by rw [(rdr_eff hr he).1]; simp⟩
  cases op <;> simp only [rdr, mutOp, reduceCtorEq, not_true_eq_false, Bool.true_eq_false] at hr hm
  case call c =>
    obtain ⟨callee, args, at_⟩ := c
    cases callee with
    | value f =>
      simp only [eff] at he
      split at he
      · split at he
        · split at he
          · simp only [Option.some.injEq, Prod.mk.injEq] at he
            exact ⟨_, he.2.symm⟩
          · cases he
        · cases he
      · cases he
    | invoke r m => simp [eff, aval1] at he
    | builtin b => cases b <;> simp at hr hm
  all_goals
    simp only [eff] at he
    split at he
    · simp only [Option.some.injEq, Prod.mk.injEq] at he; exact ⟨_, by rw [← he.2, hput_app]⟩
    · simp only [Option.some.injEq, Prod.mk.injEq] at he; exact ⟨_, by rw [← he.2, hput_app]⟩
    · cases he
end

/-! ### Steps -/
def wantedA (all : Array Oper) (env : List (Nat × A)) (o : Oper) : Option Bool :=
  match o.guard with
  | none => some true
  | some (j, w) => match dstOf all j with
    | some d => match look env d with
      | .bool g => some (g == w)
      | .tup [] => some false
      | _ => none
    | none => none
def dstep (T : Tab) (K : Kn) (all : Array Oper) (st : St) (o : Oper) : Option St :=
  match wantedA all st.env o with
  | some true => match eff T K st.env st.heap o.op with
    | some (x, h) => (withH st h).putO o.dst x
    | none => none
  | some false => st.putO o.dst (.tup [])
  | none => none
def putE (env : List (Nat × A)) (d : Option Nat) (x : A) : List (Nat × A) :=
  match d with
  | some d => (d, x) :: env
  | none => env
theorem putO_iff {st st' : St} {d : Option Nat} {x : A} : st.putO d x = some st' ↔ (∀ e, d = some e → e < st.n) ∧ st' = { st with env := putE st.env d x } := by
  cases d with
  | none =>
    simp only [St.putO, putE, Option.some.injEq, reduceCtorEq, false_implies, implies_true, true_and]
    constructor <;> (rintro rfl; rfl)
  | some d =>
    simp only [St.putO, putE, St.put]
    split
    · rename_i hd
      simp [eq_comm, hd]
    · rename_i hd
      simp [hd]
theorem look_putE {env : List (Nat × A)} {d : Option Nat} {x : A} (i : Nat) : look (putE env d x) i = if d = some i then x else look env i := by
  cases d with
  | none => simp [putE]
  | some d =>
    simp only [putE, look, Option.some.injEq]
    by_cases hd : d = i
    · subst hd; simp
    · have : Nat.beq i d = false := by
        cases hb : Nat.beq i d
        · rfl
        · exact absurd (Nat.eq_of_beq_eq_true hb).symm hd
      simp [this, hd]
theorem ev_putE {env : List (Nat × A)} {d : Option Nat} {x : A} {y : Operand} (h : ∀ e, d = some e → y ≠ .tmp e) : ev (putE env d x) y = ev env y := by
  cases y with
  | tmp t =>
    simp only [ev, look_putE]
    rw [if_neg]
    intro e
    exact h t e rfl
  | const v => rfl
  | global g => rfl
  | func f => rfl
/-- The same to all who look. -/
def Same (st st' : St) : Prop := st.heap = st'.heap ∧ st.n = st'.n ∧ ∀ i, look st.env i = look st'.env i
theorem Same.symm {st st' : St} (h : Same st st') : Same st' st := ⟨h.1.symm, h.2.1.symm, fun i => (h.2.2 i).symm⟩
theorem Same.ev {st st' : St} (h : Same st st') (x : Operand) : ev st.env x = ev st'.env x := by cases x <;> simp [Ab.ev, h.2.2]
section
variable {T : Tab} {K : Kn} {all : Array Oper} {o oi oj : Oper} {st st' s1 s2 : St}
theorem Same.putO {d : Option Nat} {x : A} (h : Same st st') (hp : st.putO d x = some s1) : ∃ s2, st'.putO d x = some s2 ∧ Same s1 s2 := by
  obtain ⟨h1, rfl⟩ := putO_iff.1 hp
  refine ⟨_, putO_iff.2 ⟨fun e he => by rw [← h.2.1]; exact h1 e he, rfl⟩, h.1, h.2.1, fun i => ?_⟩
  simp only [look_putE, h.2.2]
theorem wantedA_congr {env env' : List (Nat × A)} (h : ∀ g v d, o.guard = some (g, v) → dstOf all g = some d → look env d = look env' d) : wantedA all env o = wantedA all env' o := by
  unfold wantedA
  cases hg : o.guard with
  | none => rfl
  | some g =>
    obtain ⟨j, v⟩ := g
    cases hd : dstOf all j with
    | none => simp only [hd]
    | some d => simp only [hd, h j v d hg hd]
theorem dstep_same (h : Same st st') (hs : dstep T K all st o = some s1) : ∃ s2, dstep T K all st' o = some s2 ∧ Same s1 s2 := by
  unfold dstep at *
  rw [← wantedA_congr (fun g v d _ _ => h.2.2 d), ← eff_congr (fun x _ => h.ev x), ← h.1]
  split at hs
  · split at hs
    · rename_i x hh he
      exact Same.putO (st := withH st hh) (st' := withH st' hh) ⟨rfl, h.2.1, h.2.2⟩ hs
    · cases hs
  · exact Same.putO h hs
  · cases hs
theorem not_looked {d : Nat} (h : d ∉ o.looksAt all) : (∀ x ∈ o.op.operands, x ≠ .tmp d) ∧ ∀ g v e, o.guard = some (g, v) → dstOf all g = some e → e ≠ d := by
  constructor
  · rintro x hx rfl
    exact h (List.mem_append_left _ (List.mem_filterMap.2 ⟨.tmp d, by simpa using hx, rfl⟩))
  · rintro g v e hg hd rfl
    exact h (List.mem_append_right _ (by unfold dstOf at hd; simp [hg, hd]))
theorem unlooked {env : List (Nat × A)} {d : Option Nat} {x : A} {h : Heap} (hn : ∀ e, d = some e → e ∉ o.looksAt all) :
    wantedA all (putE env d x) o = wantedA all env o ∧ eff T K (putE env d x) h o.op = eff T K env h o.op := by
  constructor
  · refine wantedA_congr fun g v e hg hd => ?_
    rw [look_putE, if_neg]
    rintro rfl
    exact (not_looked (hn e rfl)).2 g v e hg hd rfl
  · exact eff_congr fun y hy => ev_putE fun e he => (not_looked (hn e he)).1 y hy
/-- A reader may come first or last. -/
theorem dstep_comm (hr : rdr oi.op = true) (hm : mutOp oj.op = false) (hap : oi.apart all oj = true) (h1 : dstep T K all st oi = some s1) (h2 : dstep T K all s1 oj = some s2) :
    ∃ s' s2', dstep T K all st oj = some s' ∧ dstep T K all s' oi = some s2' ∧ Same s2 s2' := by
  obtain ⟨a1, a2, a3⟩ := Oper.apart_spec hap
  -- the first
  have first : ∃ x, s1 = { st with env := putE st.env oi.dst x } ∧ (∀ e, oi.dst = some e → e < st.n) ∧
      ∀ (s : St) (e : Heap), s.n = st.n → s.heap = st.heap ++ e → (∀ (u : A), wantedA all (putE st.env oj.dst u) oi = wantedA all st.env oi) → ∀ u, s.env = putE st.env oj.dst u → dstep T K all s oi = some { s with env := putE s.env oi.dst x } := by
    unfold dstep at h1
    split at h1
    · rename_i hw
      split at h1
      · rename_i x hh he
        obtain ⟨rfl, hext⟩ := rdr_eff hr he
        obtain ⟨p1, rfl⟩ := putO_iff.1 h1
        refine ⟨x, rfl, p1, fun s e hn hh hwa u hu => ?_⟩
        unfold dstep
        rw [hu, hwa u, hw, hh]
        simp only
        rw [(unlooked (T := T) (K := K) (all := all) (h := st.heap ++ e) (env := st.env) (x := u) a3).2, hext e]
        simp only
        rw [putO_iff.2 ⟨fun e he => by show e < s.n; rw [hn]; exact p1 e he, rfl⟩]
        simp [withH, hu, hh]
      · cases h1
    · rename_i hw
      obtain ⟨p1, rfl⟩ := putO_iff.1 h1
      refine ⟨.tup [], rfl, p1, fun s e hn hh hwa u hu => ?_⟩
      unfold dstep
      rw [hu, hwa u, hw]
      simp only
      rw [putO_iff.2 ⟨fun e he => by rw [hn]; exact p1 e he, rfl⟩]
      simp [hu]
    · cases h1
  obtain ⟨x, rfl, p1, hi⟩ := first
  have hwi : ∀ u : A, wantedA all (putE st.env oj.dst u) oi = wantedA all st.env oi := fun u => (unlooked (T := T) (K := K) (h := []) a3).1
  have hj := unlooked (T := T) (K := K) (all := all) (o := oj) (env := st.env) (x := x) (h := st.heap) a1
  unfold dstep at h2
  simp only at h2
  rw [hj.1, hj.2] at h2
  have fin : ∀ (u : A) (hh e : Heap), hh = st.heap ++ e → (∀ d, oj.dst = some d → d < st.n) → s2 = { st with heap := hh, env := putE (putE st.env oi.dst x) oj.dst u } → dstep T K all st oj = some { st with heap := hh, env := putE st.env oj.dst u } →
      ∃ s' s2', dstep T K all st oj = some s' ∧ dstep T K all s' oi = some s2' ∧ Same s2 s2' := by
    intro u hh e he hlt hs2 hs
    refine ⟨_, _, hs, hi _ e rfl (by simpa using he) hwi u rfl, ?_⟩
    subst hs2
    refine ⟨rfl, rfl, fun k => ?_⟩
    simp only [look_putE]
    by_cases hk1 : oj.dst = some k
    · rw [if_pos hk1, if_neg (fun h => a2 k h hk1), if_pos hk1]
    · by_cases hk2 : oi.dst = some k
      · rw [if_neg hk1, if_pos hk2, if_pos hk2]
      · rw [if_neg hk1, if_neg hk2, if_neg hk2, if_neg hk1]
  split at h2
  · rename_i hw
    split at h2
    · rename_i y hh he
      obtain ⟨e, rfl⟩ := ext_eff hm he
      obtain ⟨q1, rfl⟩ := putO_iff.1 h2
      refine fin y _ e rfl q1 rfl ?_
      unfold dstep
      rw [hw, he]
      exact putO_iff.2 ⟨q1, rfl⟩
    · cases h2
  · rename_i hw
    obtain ⟨q1, rfl⟩ := putO_iff.1 h2
    refine fin (.tup []) _ [] (by simp) q1 rfl ?_
    unfold dstep
    rw [hw]
    exact putO_iff.2 ⟨q1, rfl⟩
  · cases h2
end
end Go.Proofs.Ytpdhoimpbiehkaa.Ab
