/- Calls, results and rounds over abstract states. -/
import Derived.Test.YtpdhoimpbiehkaaAbMach
namespace Go.Proofs.Ytpdhoimpbiehkaa.Ab
open Go
set_option linter.unusedVariables false
set_option linter.unusedSimpArgs false

/-! ### Calls -/
def callArgs (env : List (Nat × A)) (args : Array Operand) (caps : List A) : List A := args.toList.map (ev env) ++ caps
section
variable {c : Cx} {k : List It} {st st' : St} {all : Array Oper} {o : Oper} {l : List Oper}

/-- A function of the program with a body. -/
def Enters (P : Program) (f : FuncId) : Prop := ∀ args w, (callFunc f args).run P w = .ok (.enter f args) w

theorem args_rel {S0 : Nat → Prop} {a : Act} {w : World} {φ : List (Option Loc)} {fs : List Nat} (h : SRel S0 st a w φ fs) (args : List Operand) : RelL w (Sof S0 fs) φ (args.map (ev st.env)) (args.map a.eval) [] := by
  induction args with
  | nil => exact .nil
  | cons x l ih => exact .cons (f := []) (fs := []) (ev_rel h x) ih

theorem G.call {f fid : FuncId} {caps : List A} {fo : Operand} {args : Array Operand} {at_ : Array TypeId} {vargs : List A} {res : A} (he : Enters c.P fid)
    (ho : o.op = .call { callee := .value fo, args := args, argTypes := at_ }) (hg : o.guard = none) (hf : ev st.env fo = .fn fid caps)
    (hva : vwL st.heap (callArgs st.env args caps) = vargs) (hc : AC c.P fid vargs res) (hl : noLoan res = true)
    (hp : (withH st (st.heap ++ (matA st.heap.length res).2)).putO o.dst (matA st.heap.length res).1 = some st') (h : G c (.ops all l :: k) st') : G c (.ops all (o :: l) :: k) st := by
  intro a w φ fs hr hb
  have hfv := ev_rel hr fo
  rw [hf] at hfv
  generalize hfe : a.eval fo = fv at hfv
  cases hfv with
  | fn hcaps =>
    rename_i cvs
    have hargs := (args_rel hr args.toList).append (f := []) (g := []) hcaps
    have hview := vwL_rel hr hargs
    have hcall := hc w c.S0 (args.toList.map a.eval ++ cvs) hr.low (by rw [← hva]; exact hview)
    show wpList c.P all (cont c.P k c.Q) (o :: l) a w
    simp only [wpList]
    rw [if_pos (by simp [Region.wanted, hg])]
    refine .inl ?_
    unfold Oper.wp
    have hrun : (execOp a.eval o).run c.P w = .ok (.enter fid (args.toList.map a.eval ++ cvs).toArray) w := by
      unfold execOp
      rw [ho]
      simp only [resolve, hfe, Deferred.ofValue, invoke, Sem.run_bind, Sem.run_pure, Result.andThen_ok]
      have e : (#[] ++ Array.map a.eval args ++ cvs.toArray : Array Value) = (args.toList.map a.eval ++ cvs).toArray := by apply Array.ext'; simp
      rw [e]
      exact he _ w
    rw [hrun]
    simp only [Oper.upon]
    refine hcall.mono ?_
    rintro e w' ⟨v, fb, rfl, h1, h2, h3, h4⟩
    obtain ⟨φ', fs', g1, g2, g3, g4⟩ := hr.called h1 h2 h3 h4 (.inl hl)
    exact h _ w' φ' fs' (g1.putO g4 hp) (hb.step h4 (fun _ h => h.elim) g2 g3)
end

/-! ### Results -/
mutual
/-- Nothing that leads into the abstract heap, however deep. -/
def pureA : A → Bool
  | .sl .. => false
  | .ptr .. => false
  | .agg cs => pureL cs
  | .tup cs => pureL cs
  | .fn _ cs => pureL cs
  | .row own _ es => if own then pureLL es else true
  | .box cs => pureL cs
  | _ => true
def pureL : List A → Bool
  | [] => true
  | a :: as => pureA a && pureL as
def pureLL : List (List A) → Bool
  | [] => true
  | e :: es => pureL e && pureLL es
end
section
variable {w : World} {S : Nat → Prop}
mutual
theorem pure_rel {φ : List (Option Loc)} {x : A} {v : Value} {f : List Nat} (hp : pureA x = true) (h : Rel w S φ x v f) : Rel w S [] x v f := by
  cases x with
  | row own sz es =>
    cases own with
    | false => cases h with
      | ro hu hr hc hl => exact .ro hu hr hc hl
      | ro0 => exact .ro0 _ _ _
    | true =>
      simp only [pureA, if_true] at hp
      cases h with
      | own hh hz hu hr hc hl => exact .own hh hz hu (pureLL_rel hp hr) hc hl
      | own0 => exact .own0 _ _
  | box cs => simp only [pureA] at hp; cases h with | box hh hz hl hc hr => exact .box hh hz hl hc (pureL_rel hp hr)
  | agg cs => simp only [pureA] at hp; cases h with | agg hr => exact .agg (pureL_rel hp hr)
  | tup cs => simp only [pureA] at hp; cases h with | tup hr => exact .tup (pureL_rel hp hr)
  | fn g cs => simp only [pureA] at hp; cases h with | fn hr => exact .fn (pureL_rel hp hr)
  | any => cases h; exact .any _
  | int k n => cases h; exact .int _ _
  | bool b => cases h; exact .bool _
  | str s => cases h; exact .str _
  | nils => cases h; exact .nils
  | nilp => cases h; exact .nilp
  | sl m lo len => simp [pureA] at hp
  | ptr m i j => simp [pureA] at hp
  | rp sz es i j => cases h with | rp hu hr hc => exact .rp hu hr hc
theorem pureL_rel {φ : List (Option Loc)} {xs : List A} {vs : List Value} {f : List Nat} (hp : pureL xs = true) (h : RelL w S φ xs vs f) : RelL w S [] xs vs f := by
  cases xs with
  | nil => cases h; exact .nil
  | cons x xs => cases h with | cons h hs => simp only [pureL, Bool.and_eq_true] at hp; exact .cons (pure_rel hp.1 h) (pureL_rel hp.2 hs)
theorem pureLL_rel {φ : List (Option Loc)} {es : List (List A)} {vs : List Value} {f : List Nat} (hp : pureLL es = true) (h : RelL w S φ es.flatten vs f) : RelL w S [] es.flatten vs f := by
  cases es with
  | nil => cases h; exact .nil
  | cons e es =>
    simp only [pureLL, Bool.and_eq_true] at hp
    rw [List.flatten_cons] at h ⊢
    obtain ⟨u1, u2, g1, g2, rfl, rfl, r1, r2⟩ := h.split
    exact (pureL_rel hp.1 r1).append (pureLL_rel hp.2 r2)
end
theorem pureL_map (as : List A) : pureL as = as.all pureA := by
  induction as with
  | nil => rfl
  | cons a as ih => simp [pureL, ih]
theorem pureLL_map (es : List (List A)) : pureLL es = es.all pureL := by
  induction es with
  | nil => rfl
  | cons a as ih => simp [pureLL, ih]

mutual
/-- Blocks of the abstract heap are taken into a value. -/
def foldA (h : Heap) : A → Option (A × Heap)
  | .sl m lo len => match h[m]? with
    | some (some (sz, es)) => if lo + len ≤ es.length ∧ pureLL es = true then some (.row true sz ((es.drop lo).take len), h.set m none) else none
    | _ => none
  | .ptr m i j => match h[m]? with
    | some (some (sz, es)) => match es with
      | [cs] => if i = 0 ∧ j = 0 ∧ pureL cs = true then some (.box cs, h.set m none) else none
      | _ => none
    | _ => none
  | .agg cs => match foldL h cs with
    | some (cs', h') => some (.agg cs', h')
    | none => none
  | .tup cs => match foldL h cs with
    | some (cs', h') => some (.tup cs', h')
    | none => none
  | .fn f cs => if pureL cs = true then some (.fn f cs, h) else none
  | .row own sz es => if own && !(pureLL es) then none else some (.row own sz es, h)
  | .box cs => if pureL cs = true then some (.box cs, h) else none
  | .any => some (.any, h)
  | .int k n => some (.int k n, h)
  | .bool b => some (.bool b, h)
  | .str s => some (.str s, h)
  | .nils => some (.nils, h)
  | .nilp => some (.nilp, h)
  | .rp sz es i j => some (.rp sz es i j, h)
def foldL (h : Heap) : List A → Option (List A × Heap)
  | [] => some ([], h)
  | a :: as => match foldA h a with
    | some (a', h') => match foldL h' as with
      | some (as', h'') => some (a' :: as', h'')
      | none => none
    | none => none
end
end

section
variable {w : World} {S : Nat → Prop} {φ : List (Option Loc)}
/-- A heap's blocks and a value's own, before and after. -/
def Apart2 (fs f fr fx : List Nat) : Prop := (fr ++ fx).Nodup ∧ ∀ b ∈ fr ++ fx, b ∈ fs ++ f
theorem Apart2.same {fs f : List Nat} (hn : (fs ++ f).Nodup) : Apart2 fs f fs f := ⟨hn, fun b hb => hb⟩
theorem Apart2.two {fs f1 f2 fr fx fr' fx' : List Nat} (hn : (fs ++ (f1 ++ f2)).Nodup) (h : Apart2 fs f1 fr fx) (k : Apart2 fr f2 fr' fx') : Apart2 fs (f1 ++ f2) fr' (fx ++ fx') := by
  obtain ⟨h1, h2⟩ := h
  obtain ⟨k1, k2⟩ := k
  simp only [List.nodup_append, List.mem_append] at h1 k1 h2 k2 hn ⊢
  have hx2 : ∀ x ∈ fx, ∀ y ∈ f2, x ≠ y := fun x hx y hy e => by
    subst e
    rcases h2 x (.inr hx) with h | h
    · exact hn.2.2 x h x (.inr hy) rfl
    · exact hn.2.1.2.2 x h x hy rfl
  constructor
  · simp only [List.nodup_append, List.mem_append]
    refine ⟨k1.1, ⟨h1.2.1, k1.2.1, ?_⟩, ?_⟩
    · intro x hx y hy e
      subst e
      rcases k2 x (.inr hy) with h | h
      · exact h1.2.2 x h x hx rfl
      · exact hx2 x hx x h rfl
    · rintro x hx y (hy | hy) e
      · subst e
        rcases k2 x (.inl hx) with h | h
        · exact h1.2.2 x h x hy rfl
        · exact hx2 x hy x h rfl
      · exact k1.2.2 x hx y hy e
  · intro b hb
    simp only [List.mem_append] at hb ⊢
    rcases hb with hb | hb | hb
    · rcases k2 b (.inl hb) with h | h
      · exact (h2 b (.inl h)).imp id .inl
      · exact .inr (.inr h)
    · exact (h2 b (.inr hb)).imp id .inl
    · rcases k2 b (.inr hb) with h | h
      · exact (h2 b (.inl h)).imp id .inl
      · exact .inr (.inr h)
theorem nodup_mid {fr f1 f2 fs : List Nat} {fx : List Nat} (hn : (fs ++ (f1 ++ f2)).Nodup) (h : Apart2 fs f1 fr fx) : (fr ++ f2).Nodup := by
  obtain ⟨h1, h2⟩ := h
  simp only [List.nodup_append, List.mem_append] at h1 h2 hn ⊢
  refine ⟨h1.1, hn.2.1.2.1, fun x hx y hy e => ?_⟩
  subst e
  rcases h2 x (.inl hx) with h | h
  · exact hn.2.2 x h x (.inr hy) rfl
  · exact hn.2.1.2.2 x h x hy rfl

theorem HRel.kill {h : Heap} {fs : List Nat} (H : HRel w S φ h φ fs) (hn : fs.Nodup) {m : Nat} {b : Blk} (hm : h[m]? = some (some b)) :
    ∃ (l : Loc) (fr fb : List Nat), φ[m]? = some (some l) ∧ BRel w S φ (some b) (some l) fb ∧ HRel w S φ (h.set m none) φ fr ∧ fs.Perm (fr ++ fb) := by
  obtain ⟨lo, f1, fb, f2, q1, q2, q3, q4⟩ := H.at_ hm
  cases lo with
  | none => exact q2.elim
  | some l =>
    refine ⟨l, f1 ++ f2, fb, q1, q2, ?_, ?_⟩
    · have := q4 w S (fun _ => False) φ none [] (Fr.refl _ w) (fun b hb => .inl hb) (fun _ h => h.elim) (Ext.refl φ) (fun _ _ h => h) (fun _ _ h => h) rfl
      simpa using this
    · rw [q3, List.append_assoc]
      exact List.Perm.append_left f1 List.perm_append_comm

mutual
theorem foldA_rel {h h' : Heap} {fs f : List Nat} {x x' : A} {v : Value} (H : HRel w S φ h φ fs) (hn : (fs ++ f).Nodup) (hv : Rel w S φ x v f) (hf : foldA h x = some (x', h')) :
    ∃ fr fx, Rel w S [] x' v fx ∧ HRel w S φ h' φ fr ∧ Apart2 fs f fr fx := by
  have plain : ∀ {y : A}, Rel w S φ y v f → pureA y = true → foldA h x = some (y, h) → ∃ fr fx, Rel w S [] x' v fx ∧ HRel w S φ h' φ fr ∧ Apart2 fs f fr fx := by
    intro y hy hp e
    rw [e] at hf
    simp only [Option.some.injEq, Prod.mk.injEq] at hf
    obtain ⟨rfl, rfl⟩ := hf
    exact ⟨fs, f, pure_rel hp hy, H, .same hn⟩
  have kill : ∀ {m : Nat} {b : Blk}, h[m]? = some (some b) → f = [] → ∃ (l : Loc) (fr fb : List Nat), φ[m]? = some (some l) ∧ BRel w S φ (some b) (some l) fb ∧ HRel w S φ (h.set m none) φ fr ∧ (∀ fx : List Nat, fx.Sublist fb → Apart2 fs f fr fx) := by
    rintro m b hm rfl
    simp only [List.append_nil] at hn
    obtain ⟨l, fr, fb, q1, q2, q3, q4⟩ := H.kill hn hm
    refine ⟨l, fr, fb, q1, q2, q3, fun fx hfx => ?_⟩
    have hn2 := q4.nodup hn
    exact ⟨((List.Sublist.refl fr).append hfx).nodup hn2, fun b hb => by
      have := ((List.Sublist.refl fr).append hfx).subset hb
      simpa using q4.mem_iff.2 this⟩
  cases x with
  | sl m lo len =>
    simp only [foldA] at hf
    split at hf
    · rename_i sz es hm
      split at hf
      · rename_i hcond
        obtain ⟨hle, hpu⟩ := hcond
        simp only [Option.some.injEq, Prod.mk.injEq] at hf
        obtain ⟨rfl, rfl⟩ := hf
        have hf0 : f = [] := by cases hv; rfl
        subst hf0
        obtain ⟨l, fr, fb, q1, q2, q4, q5⟩ := kill hm rfl
        obtain ⟨hz, q2⟩ := q2
        cases hv with
        | sl hm2 hlo hlen ha =>
          rename_i c ad l2
          have := loc_eq q1 hm2
          subst this
          have hlen0 : ((es.drop lo).take len).length = len := by simp; omega
          rcases q2 with q2 | ⟨arr, ty, vs, f0, rfl, r1, r2, r3, r4, r5, r6⟩
          · have he : es = [] := q2.2.1
            subst he
            have hl0 : len = 0 := by simpa using hlen0.symm
            have hc0 : c = 0 := by have := q2.1; omega
            subst hl0 hc0
            refine ⟨_, [], ?_, q4, q5 [] (List.nil_sublist _)⟩
            simpa using Rel.own0 (w := w) (S := S) (φ := []) sz ad
          · obtain ⟨g1, g2, g3, e1, _, w2, _⟩ := r4.window (lo * sz) (len * sz)
            have hfl : (es.flatten.drop (lo * sz)).take (len * sz) = ((es.drop lo).take len).flatten := by rw [flat_drop r3, flat_take (uni_drop r3 lo)]
            rw [hfl] at w2
            have hpw : pureLL ((es.drop lo).take len) = true := by
              rw [pureLL_map] at hpu ⊢
              rw [List.all_eq_true] at hpu ⊢
              exact fun e he => hpu e (List.mem_of_mem_drop (List.mem_of_mem_take he))
            have hg2 : g2.Sublist f0 := by rw [e1]; exact (List.sublist_append_left g2 g3).trans (List.sublist_append_right g1 _)
            by_cases hc0 : 0 < c
            · refine ⟨_, l2.g :: g2, ?_, q4, q5 _ (hg2.cons_cons l2.g)⟩
              rw [ha hc0]
              have key : Rel w S [] (.row true sz ((es.drop lo).take len)) (.slice (some ⟨l2.g, l2.off + lo * l2.sz, none⟩) ((es.drop lo).take len).length c) (l2.g :: g2) := by
                refine .own r1 ?_ (uni_take (uni_drop r3 lo) len) (pureLL_rel hpw w2) ?_ (by omega)
                · rw [r2, hz, ← hlo, Nat.add_mul]; omega
                · intro k u hk
                  have hk2 : vs[lo * sz + k]? = some u := by
                    by_cases hlt : k < len * sz
                    · rwa [List.getElem?_take_of_lt hlt, List.getElem?_drop] at hk
                    · rw [List.getElem?_eq_none (by simp; omega)] at hk; cases hk
                  rw [hz, Nat.add_assoc]
                  exact r5 _ _ hk2
              rw [hlen0] at key
              exact key
            · have hc0 : c = 0 := by omega
              have hl0 : len = 0 := by omega
              subst hc0 hl0
              refine ⟨_, [], ?_, q4, q5 [] (List.nil_sublist _)⟩
              simpa using Rel.own0 (w := w) (S := S) (φ := []) sz ad
      · cases hf
    · cases hf
  | ptr m i j =>
    simp only [foldA] at hf
    split at hf
    · rename_i sz es hm
      split at hf
      · rename_i cs
        split at hf
        · rename_i hcond
          obtain ⟨rfl, rfl, hpu⟩ := hcond
          simp only [Option.some.injEq, Prod.mk.injEq] at hf
          obtain ⟨rfl, rfl⟩ := hf
          have hf0 : f = [] := by cases hv; rfl
          subst hf0
          obtain ⟨l, fr, fb, q1, q2, q4, q5⟩ := kill hm rfl
          obtain ⟨hz, q2⟩ := q2
          cases hv with
          | ptr hm2 =>
            rename_i l2
            have := loc_eq q1 hm2
            subst this
            rcases q2 with q2 | ⟨arr, ty, vs, f0, rfl, r1, r2, r3, r4, r5, r6⟩
            · cases q2.2.1
            · refine ⟨_, l2.g :: f0, ?_, q4, q5 _ (List.Sublist.refl _)⟩
              have hcs : cs.length = sz := r3 cs (by simp)
              have := Rel.box (w := w) (S := S) (φ := []) (off := l2.off) (cap := l2.cap) r1 (by rw [hcs]; exact r2) (by simpa using r6) r5 (pureL_rel hpu (by simpa using r4))
              simpa using this
        · cases hf
      · cases hf
    · cases hf
  | agg cs =>
    simp only [foldA] at hf
    split at hf
    · rename_i cs' h2 hl
      simp only [Option.some.injEq, Prod.mk.injEq] at hf
      obtain ⟨rfl, rfl⟩ := hf
      cases hv with
      | agg hr =>
        obtain ⟨fr, fx, g1, g2, g3⟩ := foldL_rel H hn hr hl
        exact ⟨fr, fx, .agg g1, g2, g3⟩
    · cases hf
  | tup cs =>
    simp only [foldA] at hf
    split at hf
    · rename_i cs' h2 hl
      simp only [Option.some.injEq, Prod.mk.injEq] at hf
      obtain ⟨rfl, rfl⟩ := hf
      cases hv with
      | tup hr =>
        obtain ⟨fr, fx, g1, g2, g3⟩ := foldL_rel H hn hr hl
        exact ⟨fr, fx, .tup g1, g2, g3⟩
    · cases hf
  | fn g cs =>
    simp only [foldA] at hf
    split at hf
    · rename_i hp
      exact plain hv hp (by simp [foldA, hp])
    · cases hf
  | row own sz es =>
    simp only [foldA] at hf
    split at hf
    · cases hf
    · rename_i hc
      refine plain hv ?_ (by simp only [foldA]; rw [if_neg hc])
      cases own with
      | false => rfl
      | true => simpa [pureA] using hc
  | box cs =>
    simp only [foldA] at hf
    split at hf
    · rename_i hp
      exact plain hv hp (by simp [foldA, hp])
    · cases hf
  | any => exact plain hv rfl rfl
  | int k n => exact plain hv rfl rfl
  | bool b => exact plain hv rfl rfl
  | str s => exact plain hv rfl rfl
  | nils => exact plain hv rfl rfl
  | nilp => exact plain hv rfl rfl
  | rp sz es i j => exact plain hv rfl rfl
theorem foldL_rel {h h' : Heap} {fs f : List Nat} {xs xs' : List A} {vs : List Value} (H : HRel w S φ h φ fs) (hn : (fs ++ f).Nodup) (hv : RelL w S φ xs vs f) (hf : foldL h xs = some (xs', h')) :
    ∃ fr fx, RelL w S [] xs' vs fx ∧ HRel w S φ h' φ fr ∧ Apart2 fs f fr fx := by
  cases xs with
  | nil =>
    cases hv
    simp only [foldL, Option.some.injEq, Prod.mk.injEq] at hf
    obtain ⟨rfl, rfl⟩ := hf
    exact ⟨fs, [], .nil, H, .same hn⟩
  | cons x xs =>
    cases hv with
    | cons h1 h2 =>
      rename_i v f1 vs f2
      simp only [foldL] at hf
      split at hf
      · rename_i x' h0 hx
        split at hf
        · rename_i xs0 h00 hxs
          simp only [Option.some.injEq, Prod.mk.injEq] at hf
          obtain ⟨rfl, rfl⟩ := hf
          have hn1 : (fs ++ f1).Nodup := ((List.Sublist.refl fs).append (List.sublist_append_left f1 f2)).nodup hn
          obtain ⟨fr, fx, g1, g2, g3⟩ := foldA_rel H hn1 h1 hx
          obtain ⟨fr', fx', g1', g2', g3'⟩ := foldL_rel g2 (nodup_mid hn g3) h2 hxs
          exact ⟨fr', fx ++ fx', .cons g1 g1', g2', Apart2.two hn g3 g3'⟩
        · cases hf
      · cases hf
end
def foldLL (h : Heap) : List (List A) → Option (List (List A) × Heap)
  | [] => some ([], h)
  | e :: es => match foldL h e with
    | some (e', h') => match foldLL h' es with
      | some (es', h'') => some (e' :: es', h'')
      | none => none
    | none => none
theorem foldL_len {h h' : Heap} {xs xs' : List A} (hf : foldL h xs = some (xs', h')) : xs'.length = xs.length := by
  induction xs generalizing h h' xs' with
  | nil => simp only [foldL, Option.some.injEq, Prod.mk.injEq] at hf; rw [← hf.1]
  | cons x xs ih =>
    simp only [foldL] at hf
    split at hf
    · split at hf
      · rename_i hxs
        simp only [Option.some.injEq, Prod.mk.injEq] at hf
        rw [← hf.1]
        simp [ih hxs]
      · cases hf
    · cases hf
theorem foldLL_rel {es es' : List (List A)} {sz : Nat} : ∀ {h h' : Heap} {fs f : List Nat} {vs : List Value}, HRel w S φ h φ fs → (fs ++ f).Nodup → RelL w S φ es.flatten vs f → foldLL h es = some (es', h') → (∀ e ∈ es, e.length = sz) →
    ∃ fr fx, RelL w S [] es'.flatten vs fx ∧ HRel w S φ h' φ fr ∧ Apart2 fs f fr fx ∧ (∀ e ∈ es', e.length = sz) ∧ es'.length = es.length := by
  induction es generalizing es' with
  | nil =>
    intro h h' fs f vs H hn hv hf hu
    simp only [foldLL, Option.some.injEq, Prod.mk.injEq] at hf
    obtain ⟨rfl, rfl⟩ := hf
    cases hv
    exact ⟨fs, [], .nil, H, .same hn, by simp, rfl⟩
  | cons e es ih =>
    intro h h' fs f vs H hn hv hf hu
    rw [List.flatten_cons] at hv
    obtain ⟨u1, u2, f1, f2, rfl, rfl, r1, r2⟩ := hv.split
    simp only [foldLL] at hf
    split at hf
    · rename_i e' h0 he
      split at hf
      · rename_i es0 h00 hes
        simp only [Option.some.injEq, Prod.mk.injEq] at hf
        obtain ⟨rfl, rfl⟩ := hf
        have hn1 : (fs ++ f1).Nodup := ((List.Sublist.refl fs).append (List.sublist_append_left f1 f2)).nodup hn
        obtain ⟨fr, fx, g1, g2, g3⟩ := foldL_rel H hn1 r1 he
        obtain ⟨fr', fx', g1', g2', g3', g4', g5'⟩ := ih g2 (nodup_mid hn g3) r2 hes (fun x hx => hu x (by simp [hx]))
        refine ⟨fr', fx ++ fx', by rw [List.flatten_cons]; exact g1.append g1', g2', Apart2.two hn g3 g3', ?_, by simp [g5']⟩
        intro x hx
        rcases List.mem_cons.1 hx with rfl | hx
        · rw [foldL_len he]; exact hu e (by simp)
        · exact g4' x hx
      · cases hf
    · cases hf
end

section
variable {c : Cx} {k : List It} {st st' : St} {all : Array Oper} {o : Oper} {l : List Oper}
/-- The same where what it is told is read alone anyway: what it hands back may be lent. -/
theorem G.callR {fid : FuncId} {caps : List A} {fo : Operand} {args : Array Operand} {at_ : Array TypeId} {vargs : List A} {res : A} (he : Enters c.P fid)
    (ho : o.op = .call { callee := .value fo, args := args, argTypes := at_ }) (hg : o.guard = none) (hf : ev st.env fo = .fn fid caps)
    (hva : callArgs st.env args caps = vargs) (hno : pureL vargs = true) (hc : AC c.P fid vargs res)
    (hp : (withH st (st.heap ++ (matA st.heap.length res).2)).putO o.dst (matA st.heap.length res).1 = some st') (h : G c (.ops all l :: k) st') : G c (.ops all (o :: l) :: k) st := by
  intro a w φ fs hr hb
  have hfv := ev_rel hr fo
  rw [hf] at hfv
  generalize hfe : a.eval fo = fv at hfv
  cases hfv with
  | fn hcaps =>
    rename_i cvs
    have hargs := (args_rel hr args.toList).append (f := []) (g := []) hcaps
    have hva' : args.toList.map (ev st.env) ++ caps = vargs := hva
    rw [hva'] at hargs
    have hcall := hc w (Sof c.S0 fs) (args.toList.map a.eval ++ cvs) (fun b hb => hb.elim (hr.low b) (hr.heap.lt b)) (pureL_rel hno hargs)
    show wpList c.P all (cont c.P k c.Q) (o :: l) a w
    simp only [wpList]
    rw [if_pos (by simp [Region.wanted, hg])]
    refine .inl ?_
    unfold Oper.wp
    have hrun : (execOp a.eval o).run c.P w = .ok (.enter fid (args.toList.map a.eval ++ cvs).toArray) w := by
      unfold execOp
      rw [ho]
      simp only [resolve, hfe, Deferred.ofValue, invoke, Sem.run_bind, Sem.run_pure, Result.andThen_ok]
      have e : (#[] ++ Array.map a.eval args ++ cvs.toArray : Array Value) = (args.toList.map a.eval ++ cvs).toArray := by apply Array.ext'; simp
      rw [e]
      exact he _ w
    rw [hrun]
    simp only [Oper.upon]
    refine hcall.mono ?_
    rintro e w' ⟨v, fb, rfl, h1, h2, h3, h4⟩
    have h0 : Rel w' (Sof c.S0 fb) [] res v fb := h1.frame (Fr.refl (fun _ => False) w') (fun b hb => .inl (hb.imp .inl id)) (fun _ h => h.elim) (Ext.refl _) (fun _ _ h => h)
    obtain ⟨φ', fs', g1, g2, g3, g4⟩ := hr.called h0 h2 h3 h4 (.inr h1)
    exact h _ w' φ' fs' (g1.putO g4 hp) (hb.step h4 (fun _ h => h.elim) g2 g3)

/-! ### How a function begins and ends -/
def resA (T : Tab) (env : List (Nat × A)) (h : Heap) : ResultVar → Option A
  | .tmp t => some (look env t)
  | .cell p ty => aval1 T env h (.load ty (.tmp p))
def resAll (T : Tab) (env : List (Nat × A)) (h : Heap) : List ResultVar → Option (List A)
  | [] => some []
  | r :: rs => match resA T env h r, resAll T env h rs with
    | some x, some xs => some (x :: xs)
    | _, _ => none
def oneOrTup : List A → A
  | [x] => x
  | xs => .tup xs
def ACpost (w0 : World) (S0 : Nat → Prop) (res : A) (e : Ending) (w' : World) : Prop := ∃ v fb, e = .returned v ∧ Rel w' (Sof S0 fb) [] res v fb ∧ fb.Nodup ∧ (∀ b ∈ fb, w0.heap.size ≤ b) ∧ Fr (fun _ => False) w0 w'

def resOne (tmps : Array Value) : ResultVar → Sem Value
  | .tmp t => pure (tmps.getD t undef)
  | .cell p ty => do loadVar ty (← asAddr (tmps.getD p undef))
theorem results_eq (fn : Func) (tmps : Array Value) : results fn tmps = (do
    let vs ← fn.results.mapM (resOne tmps)
    pure (if h : vs.size = 1 then vs[0] else .tuple vs)) := by
  unfold results
  congr 1
theorem resOne_run {P : Program} {T : Tab} (hT : T.ok P) {S0 : Nat → Prop} {a : Act} {w : World} {φ : List (Option Loc)} {fs : List Nat} (h : SRel S0 st a w φ fs) {r : ResultVar} {x : A} (hr : resA T st.env st.heap r = some x) :
    ∃ v, (resOne a.tmps r).run P w = .ok v w ∧ Rel w (Sof S0 fs) φ x v [] := by
  cases r with
  | tmp t => simp only [resA, Option.some.injEq] at hr; subst hr; exact ⟨_, rfl, h.env t⟩
  | cell p ty =>
    simp only [resA] at hr
    obtain ⟨v, h1, h2⟩ := aval1_run hT h (o := { (default : Oper) with op := .load ty (.tmp p) }) hr
    refine ⟨v, ?_, h2⟩
    have hp : a.eval (.tmp p) = a.tmps.getD p undef := rfl
    simp only [execOp, Instr.loadAt, hp, Sem.run_bind] at h1
    simp only [resOne, Sem.run_bind]
    cases hpv : a.tmps.getD p undef <;> rw [hpv] at h1
    case pointer ad =>
      cases ad with
      | none => simp [Instr.sureAddr, stuck, Sem.run, Result.andThen] at h1
      | some ad =>
        simp only [Instr.sureAddr, Sem.run_pure, Result.andThen_ok] at h1
        simp only [asAddr, Sem.run_pure, Result.andThen_ok]
        generalize (loadVar ty ad).run P w = r at h1 ⊢
        cases r with
        | ok v' w' => simp [Result.andThen] at h1; rw [h1.1, h1.2]
        | halt x w' => simp [Result.andThen] at h1
    all_goals (simp [Instr.sureAddr, stuck, Sem.run, Result.andThen] at h1)
theorem resAll_run {P : Program} {T : Tab} (hT : T.ok P) {S0 : Nat → Prop} {a : Act} {w : World} {φ : List (Option Loc)} {fs : List Nat} (h : SRel S0 st a w φ fs) : ∀ (rs : List ResultVar) (xs : List A), resAll T st.env st.heap rs = some xs →
    ∃ vs : List Value, (rs.mapM (resOne a.tmps)).run P w = Result.ok vs w ∧ RelL w (Sof S0 fs) φ xs vs [] := by
  intro rs
  induction rs with
  | nil => intro xs hx; simp only [resAll, Option.some.injEq] at hx; subst hx; exact ⟨[], by simp, .nil⟩
  | cons r rs ih =>
    intro xs hx
    simp only [resAll] at hx
    split at hx
    · rename_i x xs' h1 h2
      injection hx with hx
      subst hx
      obtain ⟨v, e1, r1⟩ := resOne_run hT h h1
      obtain ⟨vs, e2, r2⟩ := ih xs' h2
      exact ⟨v :: vs, by simp only [List.mapM_cons, Sem.run_bind, e1, Result.andThen_ok, e2, Sem.run_pure], .cons (f := []) (fs := []) r1 r2⟩
    · cases hx
def oneOrTupV : List Value → Value
  | [v] => v
  | vs => .tuple vs.toArray
theorem results_run {P : Program} {T : Tab} (hT : T.ok P) {S0 : Nat → Prop} {a : Act} {w : World} {φ : List (Option Loc)} {fs : List Nat} (h : SRel S0 st a w φ fs) {fn : Func} {xs : List A} (hx : resAll T st.env st.heap fn.results.toList = some xs) :
    ∃ vs, (results fn a.tmps).run P w = .ok (oneOrTupV vs) w ∧ RelL w (Sof S0 fs) φ xs vs [] := by
  obtain ⟨vs, h1, h2⟩ := resAll_run hT h fn.results.toList xs hx
  refine ⟨vs, ?_, h2⟩
  rw [results_eq]
  simp only [Sem.run_bind, Array.mapM_eq_mapM_toList]
  have : (List.toArray <$> fn.results.toList.mapM (resOne a.tmps) : Sem (Array Value)).run P w = .ok vs.toArray w := by
    rw [map_eq_pure_bind]
    simp only [Sem.run_bind, h1, Result.andThen_ok, Sem.run_pure]
  rw [this]
  simp only [Result.andThen_ok, Sem.run_pure]
  cases vs with
  | nil => rfl
  | cons v vs => cases vs <;> rfl
theorem oneOrTup_rel {w : World} {S : Nat → Prop} {φ : List (Option Loc)} {xs : List A} {vs : List Value} {f : List Nat} (h : RelL w S φ xs vs f) : Rel w S φ (oneOrTup xs) (oneOrTupV vs) f := by
  cases h with
  | nil => exact .tup .nil
  | cons h hs =>
    cases hs with
    | nil => simpa [oneOrTup, oneOrTupV] using h
    | cons h2 hs2 => exact .tup (.cons h (.cons h2 hs2))

/-- The end of a function that is told of values that are read alone. -/
theorem G.done {P : Program} {T : Tab} {S0 : Nat → Prop} {w0 : World} {fn : Func} {res : A} {xs xs' : List A} {h' : Heap} (hT : T.ok P) (hx : resAll T st.env st.heap fn.results.toList = some xs) (hf : foldL st.heap xs = some (xs', h')) (hr : oneOrTup xs' = res) :
    G ⟨P, T, S0, w0, [], [], bodyPost P fn (ACpost w0 S0 res)⟩ (.code .ret :: k) st := by
  refine G.ret fun a w φ fs hs hb => ?_
  obtain ⟨vs, h1, h2⟩ := results_run hT hs hx
  obtain ⟨fr, fx, g1, g2, g3⟩ := foldL_rel hs.heap (by simpa using hs.nodup) h2 hf
  have g3b : ∀ b ∈ fx, b ∈ fs := fun b hb => by simpa using g3.2 b (by simp [hb])
  refine ⟨hs.defers, _, h1, _, fx, rfl, ?_, (List.nodup_append.1 g3.1).2.1, ?_, ?_⟩
  · rw [← hr]
    exact oneOrTup_rel (g1.frame (Fr.refl (fun _ => False) w) (fun b hb => .inl (hb.imp id (g3b b))) (fun _ h => h.elim) (Ext.refl _) (fun _ _ h => h))
  · intro b hb'
    exact (hb.2.1 b (g3b b hb')).resolve_left (by simp)
  · exact hb.1.mono (fun b hb => by simp at hb)
theorem look_zip (args : List A) (n i : Nat) : look ((args.zipIdx n).map fun x => (x.2, x.1)) i = if n ≤ i then args.getD (i - n) .any else .any := by
  induction args generalizing n with
  | nil => simp [look]
  | cons a args ih =>
    rw [List.zipIdx_cons, List.map_cons]
    simp only [look]
    by_cases hi : i = n
    · subst hi; simp [Nat.beq_refl]
    · have hb : Nat.beq i n = false := by cases hb : Nat.beq i n; rfl; exact absurd (Nat.eq_of_beq_eq_true hb) hi
      rw [hb, ih]
      simp only [Bool.false_eq_true, if_false]
      by_cases hn : n + 1 ≤ i
      · rw [if_pos hn, if_pos (by omega)]
        rw [show i - n = (i - (n + 1)) + 1 by omega]
        rfl
      · rw [if_neg hn]
        split
        · omega
        · rfl
/-- How a function begins. -/
theorem AC.of {P : Program} {T : Tab} {f : FuncId} {fn : Func} {code : Code} {args : List A} {res : A} (hT : T.ok P) (hf : P.funcs[f]? = some fn) (hb : fn.body = some code) (hn : args.length ≤ fn.ntmps)
    (h : ∀ w0 S0, G ⟨P, T, S0, w0, [], [], bodyPost P fn (ACpost w0 S0 res)⟩ [.code code] ⟨(args.zipIdx 0).map fun x => (x.2, x.1), [], fn.ntmps⟩) : AC P f args res := by
  intro w S0 vs hlow hr
  refine calls_of_wp hf hb ?_
  have hl := hr.length
  refine h w S0 { tmps := vs.toArray ++ Array.replicate (fn.ntmps - vs.toArray.size) undef, defers := [] } w [] [] ⟨rfl, by simp; omega, fun i => ?_, .nil, by simp, by simp, hlow⟩ ⟨Fr.refl _ w, by simp, Ext.refl _⟩
  rw [look_zip]
  simp only [Nat.zero_le, if_true, Nat.sub_zero]
  by_cases hi : i < args.length
  · obtain ⟨v, h1, h2⟩ := hr.none_at (k := i) (a := args[i]) (by simp [hi])
    have e1 : args.getD i .any = args[i] := by simp [hi]
    have e2 : (vs.toArray ++ Array.replicate (fn.ntmps - vs.toArray.size) undef).getD i undef = v := by
      have hlt : i < vs.length := by omega
      have hv : vs[i] = v := by rw [List.getElem?_eq_getElem hlt] at h1; injection h1
      simp [Array.getD, Array.getElem_append, hlt, hv]
      omega
    rw [e1, e2]
    exact h2.frame (Fr.refl (fun _ => False) w) (fun b hb => .inl (hb.elim id (by simp))) (fun _ h => h.elim) (Ext.refl _) (fun _ _ h => h)
  · have : args.getD i .any = .any := by rw [List.getD_eq_getElem?_getD, List.getElem?_eq_none (by omega)]; rfl
    rw [this]
    exact .any _
end
end Go.Proofs.Ytpdhoimpbiehkaa.Ab
