/- Regions: operations in a row, guarded ones among them. -/
import Derived.Test.YtpdhoimpbiehkaaAbRun
namespace Go.Proofs.Ytpdhoimpbiehkaa.Ab
open Go
set_option linter.unusedVariables false
set_option linter.unusedSimpArgs false

def dstOf (all : Array Oper) (j : Nat) : Option Nat := (all[j]?).bind (·.dst)
/-- One of two values. -/
def joinA (g : Bool) : A → A → Option A
  | .bool p, .bool q => some (.bool (if g then p else q))
  | .int k p, .int k' q => if k = k' then some (.int k (if g then p else q)) else none
  | _, _ => none
def forget (env : List (Nat × A)) : List Oper → List (Nat × A)
  | [] => env
  | o :: l => match o.dst with
    | some d => (d, .any) :: forget env l
    | none => forget env l
/-- Each is left out where the guard of the first is not met. -/
def skips (all : Array Oper) (j : Nat) (w : Bool) : List Nat → List Oper → Bool
  | _, [] => true
  | D, o :: l => (match o.guard with
      | some (i, v) => (i == j && v == w) || (match dstOf all i with | some d => D.contains d | none => false)
      | none => false) && (match o.dst with
      | some d => dstOf all j != some d && skips all j w (d :: D) l
      | none => skips all j w D l)
def safe (all : Array Oper) (stack : List (Nat × Bool)) (d : Option Nat) : Bool := stack.all fun g => match d with
  | some d => dstOf all g.1 != some d
  | none => true
def body (cur : Option (Nat × Bool)) : List Oper → List Oper × List Oper
  | [] => ([], [])
  | o :: l => if o.guard = cur then ([], o :: l) else (o :: (body cur l).1, (body cur l).2)
/-- Operations one after the other; what is guarded, together with the choice behind it. -/
def runC (T : Tab) (K : Kn) (all : Array Oper) : Nat → List (Nat × Bool) → St → List Oper → St × List Oper
  | 0, _, st, l => (st, l)
  | _ + 1, _, st, [] => (st, [])
  | n + 1, stack, st, o :: l =>
    if o.guard = stack.head? then
      match stack with
      | [] => match step2 T K st o with
        | some st' => runC T K all n [] st' l
        | none => (st, o :: l)
      | g :: s => match pval T K st o with
        | some x => match st.putO o.dst x with
          | some st' => if safe all (g :: s) o.dst then runC T K all n (g :: s) st' l else (st, o :: l)
          | none => (st, o :: l)
        | none => (st, o :: l)
    else match o.guard with
      | none => (st, o :: l)
      | some (j, w) => match (body stack.head? (o :: l)).2, dstOf all j with
        | p :: rest, some d => match p.op with
          | .pick (.tmp d') a b => match look st.env d with
            | .bool g =>
              if d' = d ∧ d < st.n ∧ skips all j w [] (body stack.head? (o :: l)).1 = true ∧ safe all stack p.dst = true then
                match runC T K all n ((j, w) :: stack) st (body stack.head? (o :: l)).1 with
                | (st1, []) =>
                  match joinA g (ev (if w then st1.env else forget st.env (body stack.head? (o :: l)).1) a) (ev (if w then forget st.env (body stack.head? (o :: l)).1 else st1.env) b) with
                  | some v => match ({ st with env := forget st.env (body stack.head? (o :: l)).1 } : St).putO p.dst v with
                    | some st' => runC T K all n stack st' rest
                    | none => (st, o :: l)
                  | none => (st, o :: l)
                | _ => (st, o :: l)
              else (st, o :: l)
            | _ => (st, o :: l)
          | _ => (st, o :: l)
        | _, _ => (st, o :: l)

theorem body_app (cur : Option (Nat × Bool)) (l : List Oper) : (body cur l).1 ++ (body cur l).2 = l := by
  induction l with
  | nil => rfl
  | cons o l ih =>
    simp only [body]
    split
    · rfl
    · simp [ih]
theorem body_head (cur : Option (Nat × Bool)) (l : List Oper) {p : Oper} {r : List Oper} (h : (body cur l).2 = p :: r) : p.guard = cur := by
  induction l with
  | nil => simp [body] at h
  | cons o l ih =>
    simp only [body] at h
    split at h
    · rename_i e
      simp only at h
      injection h with h1 h2
      rw [← h1]; exact e
    · exact ih h

section
variable {c : Cx} {st st' : St} {all : Array Oper} {o : Oper} {l l' : List Oper} {Q : Exit → Act → World → Prop}

def Met (all : Array Oper) (stack : List (Nat × Bool)) (a : Act) : Prop := ∀ g ∈ stack, yielded all a.tmps g.1 = some g.2
theorem yielded_put {all : Array Oper} {a : Act} {j : Nat} {d : Option Nat} {v : Value} (h : ∀ e, d = some e → dstOf all j ≠ some e) : yielded all (a.put d v).tmps j = yielded all a.tmps j := by
  unfold yielded
  cases hd : (all[j]?).bind (·.dst) with
  | none => rfl
  | some t =>
    cases d with
    | none => rfl
    | some e =>
      have : e ≠ t := fun x => h e rfl (by unfold dstOf; rw [hd, x])
      simp only [Option.bind_some, Act.put]
      rw [Array.getElem?_setIfInBounds_ne this]
theorem Met.put {stack : List (Nat × Bool)} {a : Act} {d : Option Nat} {v : Value} (h : Met all stack a) (hs : safe all stack d = true) : Met all stack (a.put d v) := by
  intro g hg
  rw [yielded_put]
  · exact h g hg
  · intro e he
    simp only [safe, List.all_eq_true] at hs
    have := hs g hg
    rw [he] at this
    simpa using this

/-- Operations that are left out. -/
theorem skip_all {j : Nat} {w : Bool} {S0 : Nat → Prop} {φ : List (Option Loc)} {fs : List Nat} {wl : World} (l : List Oper) : ∀ (D : List Nat) (st : St) (a : Act), skips all j w D l = true → SRel S0 st a wl φ fs → yielded all a.tmps j ≠ some w →
    (∀ d ∈ D, a.tmps.getD d undef = undef) → (∀ o ∈ l, ∀ d, o.dst = some d → d < st.n) → ∀ suf, (∀ a', SRel S0 { st with env := forget st.env l } a' wl φ fs → (∀ i, (∀ o ∈ l, dstOf all i ≠ none → o.dst ≠ dstOf all i) → yielded all a'.tmps i = yielded all a.tmps i) → wpList c.P all Q suf a' wl) → wpList c.P all Q (l ++ suf) a wl := by
  induction l with
  | nil => intro D st a hs hr hj hD hn suf hk; exact hk a hr (fun _ _ => rfl)
  | cons o l ih =>
    intro D st a hs hr hj hD hn suf hk
    simp only [skips, Bool.and_eq_true] at hs
    obtain ⟨h1, h2⟩ := hs
    have hw : Region.wanted o (yielded all a.tmps) = false := by
      unfold Region.wanted
      cases hg : o.guard with
      | none => rw [hg] at h1; simp at h1
      | some g =>
        obtain ⟨i, v⟩ := g
        rw [hg] at h1
        simp only [Bool.or_eq_true, Bool.and_eq_true, beq_iff_eq] at h1
        rcases h1 with ⟨rfl, rfl⟩ | h1
        · simpa using hj
        · cases hd : dstOf all i with
          | none => rw [hd] at h1; simp at h1
          | some d =>
            rw [hd] at h1
            have := hD d (by simpa using h1)
            have hy : yielded all a.tmps i = none := by
              unfold yielded
              unfold dstOf at hd
              rw [hd]
              simp only [Option.bind_some]
              cases ht : a.tmps[d]? with
              | none => rfl
              | some x =>
                have : x = undef := by
                  have e := this
                  simp only [Array.getD_eq_getD_getElem?, ht, Option.getD_some] at e
                  exact e
                rw [this]
                rfl
            simp [hy]
    show wpList c.P all Q (o :: (l ++ suf)) a wl
    simp only [wpList]
    rw [if_neg (by rw [hw]; simp)]
    cases hd : o.dst with
    | none =>
      rw [hd] at h2
      simp only at h2
      have := ih D st a h2 hr hj hD (fun x hx => hn x (by simp [hx])) suf (fun a' hr' hy => hk a' (by simpa [forget, hd] using hr') (fun i hi => hy i (fun x hx => hi x (by simp [hx]))))
      simpa [Act.put] using this
    | some d =>
      rw [hd] at h2
      simp only [Bool.and_eq_true, bne_iff_ne, ne_eq] at h2
      obtain ⟨h2, h3⟩ := h2
      have hdn := hn o (by simp) d hd
      have hr2 := hr.put (x := .any) (.any undef) hdn
      have hj2 : yielded all (a.put (some d) undef).tmps j = yielded all a.tmps j := yielded_put (fun e he => by injection he with he; subst he; exact h2)
      refine ih (d :: D) (st.put d .any) (a.put (some d) undef) h3 hr2 (by rw [hj2]; exact hj) ?_ (fun x hx => hn x (by simp [hx])) suf ?_
      · intro e he
        have hsz := hr.size
        by_cases hed : e = d
        · subst hed; simp [Act.put, Array.getD, hsz, hdn]
        · have hmem : e ∈ D := by
            rcases List.mem_cons.1 he with h | h
            · exact absurd h hed
            · exact h
          have := hD e hmem
          simp only [Act.put, Array.getD_eq_getD_getElem?] at this ⊢
          rw [Array.getElem?_setIfInBounds_ne (fun h => hed h.symm)]
          exact this
      · intro a' hr' hy
        refine hk a' ⟨hr'.defers, hr'.size, fun i => ?_, hr'.heap, hr'.nodup, hr'.apart, hr'.low⟩ (fun i hi => ?_)
        · have := hr'.env i
          have e : look (forget (st.put d .any).env l) i = look (forget st.env (o :: l)) i := by
            have hcons : forget st.env (o :: l) = (d, .any) :: forget st.env l := by simp [forget, hd]
            rw [hcons]
            have gen : ∀ (l : List Oper) (env : List (Nat × A)), look (forget ((d, .any) :: env) l) i = look ((d, .any) :: forget env l) i := by
              intro l
              induction l with
              | nil => intro env; rfl
              | cons p l ihl =>
                intro env
                cases hp : p.dst with
                | none => simp only [forget, hp]; exact ihl env
                | some e =>
                  simp only [forget, hp, look]
                  have := ihl env
                  simp only [look] at this
                  split
                  · split <;> rfl
                  · rw [this]
            exact gen l st.env
          rw [← e]
          exact this
        · rw [hy i (fun x hx => hi x (by simp [hx]))]
          exact yielded_put (fun e he => by
            injection he with he
            subst he
            intro hq
            exact hi o (by simp) (by rw [hq]; simp) (by rw [hd, hq]))
end
end Go.Proofs.Ytpdhoimpbiehkaa.Ab
