/- Calls: what is handed back is the caller's own. -/
import Derived.Test.YtpdhoimpbiehkaaAbCal
namespace Go.Proofs.Ytpdhoimpbiehkaa.Ab
open Go
set_option linter.unusedVariables false
set_option linter.unusedSimpArgs false

mutual
/-- Memory of its own becomes blocks of the abstract heap, from place n on. -/
def matA (n : Nat) : A → A × Heap
  | .row true sz es => (.sl n 0 es.length, [some (sz, es)])
  | .box cs => (.ptr n 0 0, [some (cs.length, [cs])])
  | .agg cs => (.agg (matL n cs).1, (matL n cs).2)
  | .tup cs => (.tup (matL n cs).1, (matL n cs).2)
  | .row false sz es => (.row false sz es, [])
  | .fn f cs => (.fn f cs, [])
  | .any => (.any, [])
  | .int k x => (.int k x, [])
  | .bool b => (.bool b, [])
  | .str s => (.str s, [])
  | .nils => (.nils, [])
  | .nilp => (.nilp, [])
  | .sl m lo len => (.sl m lo len, [])
  | .ptr m i j => (.ptr m i j, [])
  | .rp sz es i j => (.rp sz es i j, [])
def matL (n : Nat) : List A → List A × Heap
  | [] => ([], [])
  | a :: as => ((matA n a).1 :: (matL (n + (matA n a).2.length) as).1, (matA n a).2 ++ (matL (n + (matA n a).2.length) as).2)
end

section
variable {w : World} {S : Nat → Prop}
theorem HRel.append {φ : List (Option Loc)} {h1 h2 : Heap} {l1 l2 : List (Option Loc)} {f1 f2 : List Nat} (H1 : HRel w S φ h1 l1 f1) (H2 : HRel w S φ h2 l2 f2) : HRel w S φ (h1 ++ h2) (l1 ++ l2) (f1 ++ f2) := by
  induction H1 with
  | nil => exact H2
  | cons h hs ih => rw [List.append_assoc]; exact .cons h ih
theorem Ext.trans {a b c : List (Option Loc)} (h : Ext a b) (k : Ext b c) : Ext a c := fun m l hm => k m l (h m l hm)
theorem Ext.at_ {φb ls φ' : List (Option Loc)} {l : Loc} (h : Ext (φb ++ ls) φ') (hl : ls[0]? = some (some l)) : φ'[φb.length]? = some (some l) :=
  h _ _ (by rw [List.getElem?_append_right (Nat.le_refl _), Nat.sub_self]; exact hl)
theorem RelL.here {φ : List (Option Loc)} {as : List A} {vs : List Value} (h : RelL w S [] as vs []) : RelL w S φ as vs [] := h.up

mutual
theorem matA_rel {a : A} {v : Value} {f : List Nat} (h : Rel w S [] a v f) (φb : List (Option Loc)) :
    ∃ ls f', ls.length = (matA φb.length a).2.length ∧ HRel w S [] (matA φb.length a).2 ls f' ∧ f'.Perm f ∧ ∀ φ', Ext (φb ++ ls) φ' → Rel w S φ' (matA φb.length a).1 v [] := by
  have plain : ∀ {b : A}, matA φb.length b = (b, []) → Rel w S [] b v [] → f = [] → a = b → ∃ ls f', ls.length = (matA φb.length a).2.length ∧ HRel w S [] (matA φb.length a).2 ls f' ∧ f'.Perm f ∧ ∀ φ', Ext (φb ++ ls) φ' → Rel w S φ' (matA φb.length a).1 v [] := by
    rintro b hb hr rfl rfl
    rw [hb]
    exact ⟨[], [], rfl, .nil, List.Perm.refl _, fun φ' _ => hr.up⟩
  cases a with
  | row own sz es =>
    cases own with
    | false =>
      have hf : f = [] := by cases h <;> rfl
      subst hf
      exact plain rfl h rfl rfl
    | true =>
      cases h with
      | own hh hz hu hr hc hl =>
        rename_i vs g off cap arr ty f0
        refine ⟨[some ⟨g, off, cap, sz⟩], (g :: f0) ++ [], rfl, .cons ⟨rfl, .inr ⟨arr, ty, vs, f0, rfl, hh, hz, hu, hr, hc, hl⟩⟩ .nil, by simp, fun φ' hφ => ?_⟩
        have hat := hφ.at_ (l := ⟨g, off, cap, sz⟩) rfl
        have := Rel.sl (w := w) (S := S) (lo := 0) (len := es.length) (c := cap) (a := some ⟨g, off, none⟩) hat (by simp) hl (fun _ => by simp)
        exact this
      | own0 sz ad =>
        refine ⟨[some ⟨0, 0, 0, sz⟩], [] ++ [], rfl, .cons ⟨rfl, .inl ⟨rfl, rfl, rfl⟩⟩ .nil, by simp, fun φ' hφ => ?_⟩
        exact .sl (hφ.at_ rfl) rfl (Nat.le_refl _) (fun h => absurd h (by omega))
  | box cs =>
    cases h with
    | box hh hz hl hc hr =>
      rename_i vs g off cap arr ty f0
      refine ⟨[some ⟨g, off, cap, cs.length⟩], (g :: f0) ++ [], rfl, .cons ⟨rfl, .inr ⟨arr, ty, vs, f0, rfl, hh, hz, by simp, by simpa using hr, hc, by simpa using hl⟩⟩ .nil, by simp, fun φ' hφ => ?_⟩
      have := Rel.ptr (w := w) (S := S) (i := 0) (j := 0) (hφ.at_ (l := ⟨g, off, cap, cs.length⟩) rfl)
      simpa [matA] using this
  | agg cs =>
    cases h with
    | agg hr =>
      obtain ⟨ls, f', h1, h2, h3, h4⟩ := matL_rel hr φb
      exact ⟨ls, f', h1, h2, h3, fun φ' hφ => .agg (h4 φ' hφ)⟩
  | tup cs =>
    cases h with
    | tup hr =>
      obtain ⟨ls, f', h1, h2, h3, h4⟩ := matL_rel hr φb
      exact ⟨ls, f', h1, h2, h3, fun φ' hφ => .tup (h4 φ' hφ)⟩
  | fn g cs =>
    have hf : f = [] := by cases h; rfl
    subst hf
    exact plain rfl h rfl rfl
  | any => have hf : f = [] := by (cases h; rfl)
           subst hf; exact plain rfl h rfl rfl
  | int k x => have hf : f = [] := by (cases h; rfl)
               subst hf; exact plain rfl h rfl rfl
  | bool b => have hf : f = [] := by (cases h; rfl)
              subst hf; exact plain rfl h rfl rfl
  | str s => have hf : f = [] := by (cases h; rfl)
             subst hf; exact plain rfl h rfl rfl
  | nils => have hf : f = [] := by (cases h; rfl)
            subst hf; exact plain rfl h rfl rfl
  | nilp => have hf : f = [] := by (cases h; rfl)
            subst hf; exact plain rfl h rfl rfl
  | sl m lo len => have hf : f = [] := by (cases h; rfl)
                   subst hf; exact plain rfl h rfl rfl
  | ptr m i j => have hf : f = [] := by (cases h; rfl)
                 subst hf; exact plain rfl h rfl rfl
  | rp sz es i j => have hf : f = [] := by (cases h; rfl)
                    subst hf; exact plain rfl h rfl rfl
theorem matL_rel {as : List A} {vs : List Value} {f : List Nat} (h : RelL w S [] as vs f) (φb : List (Option Loc)) :
    ∃ ls f', ls.length = (matL φb.length as).2.length ∧ HRel w S [] (matL φb.length as).2 ls f' ∧ f'.Perm f ∧ ∀ φ', Ext (φb ++ ls) φ' → RelL w S φ' (matL φb.length as).1 vs [] := by
  cases as with
  | nil => cases h; exact ⟨[], [], rfl, .nil, List.Perm.refl _, fun _ _ => .nil⟩
  | cons a as =>
    cases h with
    | cons h hs =>
      obtain ⟨l1, f1, e1, H1, p1, r1⟩ := matA_rel h φb
      obtain ⟨l2, f2, e2, H2, p2, r2⟩ := matL_rel hs (φb ++ l1)
      have hlen : (φb ++ l1).length = φb.length + (matA φb.length a).2.length := by rw [List.length_append, e1]
      rw [hlen] at e2 H2 r2
      refine ⟨l1 ++ l2, f1 ++ f2, by simp [matL, e1, e2], H1.append H2, p1.append p2, fun φ' hφ => ?_⟩
      rw [← List.append_assoc] at hφ
      exact .cons (f := []) (fs := []) (r1 φ' ((Ext.app _ _).trans hφ)) (r2 φ' hφ)
end
end

/-- A function, told of values that are read alone, hands back what the abstract value says, in memory of its own. -/
def AC (P : Program) (f : FuncId) (args : List A) (res : A) : Prop :=
  ∀ (w : World) (S0 : Nat → Prop) (vs : List Value), (∀ b, S0 b → b < w.heap.size) → RelL w S0 [] args vs [] →
    Calls P f vs.toArray w fun e w' => ∃ v fb, e = .returned v ∧ Rel w' (Sof S0 fb) [] res v fb ∧ fb.Nodup ∧ (∀ b ∈ fb, w.heap.size ≤ b) ∧ Fr (fun _ => False) w w'

section
variable {S0 : Nat → Prop} {st : St} {a : Act} {w : World} {φ : List (Option Loc)} {fs : List Nat}
mutual
theorem noLoan_rel {S S' : Nat → Prop} {x : A} {v : Value} {f : List Nat} (hn : noLoan x = true) (h : Rel w S [] x v f) : Rel w S' [] x v f := by
  cases x with
  | row own sz es =>
    cases own with
    | false => simp [noLoan] at hn
    | true =>
      simp only [noLoan, Bool.true_and] at hn
      cases h with
      | own hh hz hu hr hc hl => exact .own hh hz hu (noLoanLL_rel hn hr) hc hl
      | own0 => exact .own0 _ _
  | box cs => simp only [noLoan] at hn; cases h with | box hh hz hl hc hr => exact .box hh hz hl hc (noLoanL_rel hn hr)
  | agg cs => simp only [noLoan] at hn; cases h with | agg hr => exact .agg (noLoanL_rel hn hr)
  | tup cs => simp only [noLoan] at hn; cases h with | tup hr => exact .tup (noLoanL_rel hn hr)
  | fn g cs => simp only [noLoan] at hn; cases h with | fn hr => exact .fn (noLoanL_rel hn hr)
  | any => cases h; exact .any _
  | int k n => cases h; exact .int _ _
  | bool b => cases h; exact .bool _
  | str s => cases h; exact .str _
  | nils => cases h; exact .nils
  | nilp => cases h; exact .nilp
  | sl m lo len => cases h with | sl hm => simp at hm
  | ptr m i j => cases h with | ptr hm => simp at hm
  | rp sz es i j => simp [noLoan] at hn
theorem noLoanL_rel {S S' : Nat → Prop} {xs : List A} {vs : List Value} {f : List Nat} (hn : noLoanL xs = true) (h : RelL w S [] xs vs f) : RelL w S' [] xs vs f := by
  cases xs with
  | nil => cases h; exact .nil
  | cons x xs => cases h with | cons h hs => simp only [noLoanL, Bool.and_eq_true] at hn; exact .cons (noLoan_rel hn.1 h) (noLoanL_rel hn.2 hs)
theorem noLoanLL_rel {S S' : Nat → Prop} {es : List (List A)} {vs : List Value} {f : List Nat} (hn : noLoanLL es = true) (h : RelL w S [] es.flatten vs f) : RelL w S' [] es.flatten vs f := by
  cases es with
  | nil => cases h; exact .nil
  | cons e es =>
    simp only [noLoanLL, Bool.and_eq_true] at hn
    rw [List.flatten_cons] at h ⊢
    obtain ⟨u1, u2, g1, g2, rfl, rfl, r1, r2⟩ := h.split
    exact (noLoanL_rel hn.1 r1).append (noLoanLL_rel hn.2 r2)
end

/-- What a call makes of a state: the values that it is told, and what it hands back. -/
theorem SRel.called (h : SRel S0 st a w φ fs) {w' : World} {res : A} {v : Value} {fb : List Nat} (hr : Rel w' (Sof S0 fb) [] res v fb) (hn : fb.Nodup) (hfb : ∀ b ∈ fb, w.heap.size ≤ b) (hw : Fr (fun _ => False) w w')
    (hl : noLoan res = true ∨ Rel w' (Sof (Sof S0 fs) fb) [] res v fb) :
    ∃ φ' fs', SRel S0 { st with heap := st.heap ++ (matA st.heap.length res).2 } a w' φ' fs' ∧ (∀ b ∈ fs', b ∈ fs ∨ w.heap.size ≤ b) ∧ Ext φ φ' ∧ Rel w' (Sof S0 fs') φ' (matA st.heap.length res).1 v [] := by
  have hlen := h.heap.length
  have hr2 : Rel w' (Sof S0 (fs ++ fb)) [] res v fb := by
    rcases hl with hl | hl
    · exact noLoan_rel hl hr
    · refine hl.frame (Fr.refl (fun _ => False) w') (fun b hb => .inl ?_) (fun _ h => h.elim) (Ext.refl _) (fun _ _ h => h)
      rcases hb with hb | hb
      · exact .inl (.inl hb)
      · rcases List.mem_append.1 hb with hb | hb
        · exact .inl (.inr hb)
        · exact .inr hb
  obtain ⟨ls, f', e1, H2, hp, hm⟩ := matA_rel hr2 φ
  rw [hlen] at e1 H2 hm
  have hnd : (fs ++ f').Nodup := by
    refine List.nodup_append.2 ⟨h.nodup, hp.symm.nodup hn, ?_⟩
    intro x hx y hy e
    subst e
    have h1 := h.heap.lt x hx
    have h2 := hfb x (hp.mem_iff.1 hy)
    omega
  have hsub : ∀ b, b ∈ fs ++ f' → b ∈ fs ∨ w.heap.size ≤ b := fun b hb => (List.mem_append.1 hb).imp id (fun hb => hfb b (hp.mem_iff.1 hb))
  have hS : ∀ b, Sof S0 (fs ++ f') b → Sof S0 fs b ∨ w.heap.size ≤ b := fun b hb => hb.elim (fun h => .inl (.inl h)) (fun hb => (hsub b hb).imp .inr id)
  have hS2 : ∀ b, Sof S0 (fs ++ f') b → Sof S0 (fs ++ fb) b := fun b hb => hb.imp id (fun hb => by
    rcases List.mem_append.1 hb with hb | hb
    · exact List.mem_append.2 (.inl hb)
    · exact List.mem_append.2 (.inr (hp.mem_iff.1 hb)))
  refine ⟨φ ++ ls, fs ++ f', h.to hw (fun _ h => h.elim) hsub (Ext.app φ ls) hnd ?_, hsub, Ext.app φ ls, ?_⟩
  · refine HRel.append (h.heap.frame hw hS (fun _ h => h.elim) (Ext.app φ ls) (fun _ _ h => h)) ?_
    exact H2.frame (Fr.refl (fun _ => False) w') (fun b hb => .inl (hS2 b hb)) (fun _ h => h.elim) (fun m l h => by simp at h) (fun _ _ h => h)
  · exact (hm (φ ++ ls) (Ext.refl _)).frame (Fr.refl (fun _ => False) w') (fun b hb => .inl (hS2 b hb)) (fun _ h => h.elim) (Ext.refl _) (fun _ _ h => h)
end
end Go.Proofs.Ytpdhoimpbiehkaa.Ab
