/- Functions of which only something is known about what they answer. -/
import Derived.Test.YtdcjlemkegifjaaGreatFwB
namespace Go.Proofs.YtdcjlemkegifjaaGreat.Ab
open Go
set_option linter.unusedVariables false
set_option linter.unusedSimpArgs false
def MX (P : Program) (f : FuncId) {X : Type} (h : Heap) (args : List A) (ok : X → Prop) (res : X → A) (h' : X → Heap) : Prop :=
 ∀ (w : World) (S0 : Nat → Prop) (vs : List Value) (φ : List (Option Loc)) (fs : List Nat), (∀ b, S0 b → b < w.heap.size) → HRel w (Sof S0 fs) φ h φ fs → fs.Nodup → (∀ b ∈ fs, ¬ S0 b) → RelL w (Sof S0 fs) φ args vs [] →
  Calls P f vs.toArray w (fun e w' => ∃ x, ok x ∧ MCpost w S0 fs φ (res x) (h' x) e w')
def AX (P : Program) (f : FuncId) {X : Type} (args : List A) (ok : X → Prop) (res : X → A) : Prop :=
 ∀ (w : World) (S0 : Nat → Prop) (vs : List Value), (∀ b, S0 b → b < w.heap.size) → RelL w S0 [] args vs [] →
  Calls P f vs.toArray w (fun e w' => ∃ x, ok x ∧ ACpost w S0 (res x) e w')
section
variable {c : Cx} {k : List It} {st : St} {all : Array Oper} {o : Oper} {l : List Oper}
end
section
variable {k : List It} {st : St}
theorem MX.of {X : Type} {ok : X → Prop} {resX : X → A} {hX : X → Heap} {P : Program} {T : Tab} {f : FuncId} {fn : Func} {code : Code} {args : List A} {hp : Heap} (hT : T.ok P) (hf : P.funcs[f]? = some fn) (hb : fn.body = some code) (hn : args.length ≤ fn.ntmps)
  (h : ∀ w0 S0 fs0 φ0, φ0.length = hp.length → hrefs hp.length hp = true → G ⟨P, T, S0, w0, fs0, φ0, bodyPost P fn (fun e w => ∃ x, ok x ∧ MCpost w0 S0 fs0 φ0 (resX x) (hX x) e w)⟩ [.code code] ⟨(args.zipIdx 0).map fun x => (x.2, x.1), hp, fn.ntmps⟩) : MX P f hp args ok resX hX := by
 intro w S0 vs φ fs hlow hH hnd hap hr
 refine calls_of_wp hf hb ?_
 have hl := hr.length
 have hq := hH.refs
 rw [hH.length] at hq
 refine h w S0 fs φ hH.length hq { tmps := vs.toArray ++ Array.replicate (fn.ntmps - vs.toArray.size) undef, defers := [] } w φ fs ⟨rfl, by simp; omega, fun i => ?_, hH, hnd, hap, hlow⟩ ⟨Fr.refl _ w, fun b hb => .inl hb, Ext.refl _⟩
 rw [look_zip]
 simp only [Nat.zero_le, if_true, Nat.sub_zero]
 by_cases hi : i < args.length
 ·obtain ⟨v, h1, h2⟩ := hr.none_at (k := i) (a := args[i]) (by simp [hi])
  have e1 : args.getD i .any = args[i] := by simp [hi]
  have e2 : (vs.toArray ++ Array.replicate (fn.ntmps - vs.toArray.size) undef).getD i undef = v := by
   have hlt : i < vs.length := by omega
   have hv : vs[i] = v := by rw [List.getElem?_eq_getElem hlt] at h1; injection h1
   simp [Array.getD, Array.getElem_append, hlt, hv]
   omega
  rw [e1, e2]
  exact h2
 ·have e1 : args.getD i .any = .any := by simp [List.getD_eq_getElem?_getD, List.getElem?_eq_none (Nat.not_lt.1 hi)]
  rw [e1]
  exact .any _
theorem AX.of {X : Type} {ok : X → Prop} {resX : X → A} {P : Program} {T : Tab} {f : FuncId} {fn : Func} {code : Code} {args : List A} (hT : T.ok P) (hf : P.funcs[f]? = some fn) (hb : fn.body = some code) (hn : args.length ≤ fn.ntmps)
  (h : ∀ w0 S0, G ⟨P, T, S0, w0, [], [], bodyPost P fn (fun e w => ∃ x, ok x ∧ ACpost w0 S0 (resX x) e w)⟩ [.code code] ⟨(args.zipIdx 0).map fun x => (x.2, x.1), [], fn.ntmps⟩) : AX P f args ok resX := by
 intro w S0 vs hlow hr
 refine calls_of_wp hf hb ?_
 have hl := hr.length
 refine h w S0 { tmps := vs.toArray ++ Array.replicate (fn.ntmps - vs.toArray.size) undef, defers := [] } w [] [] ⟨rfl, by simp; omega, fun i => ?_, .nil, by simp, by simp, hlow⟩ ⟨Fr.refl _ w, by simp, Ext.refl _⟩
 rw [look_zip]
 simp only [Nat.zero_le, if_true, Nat.sub_zero]
 by_cases hi : i < args.length
 ·obtain ⟨v, h1, h2⟩ := hr.none_at (k := i) (a := args[i]) (by simp [hi])
  have e1 : args.getD i .any = args[i] := by simp [hi]
  have e2 : (vs.toArray ++ Array.replicate (fn.ntmps - vs.toArray.size) undef).getD i undef = v := by
   have hlt : i < vs.length := by omega
   have hv : vs[i] = v := by rw [List.getElem?_eq_getElem hlt] at h1; injection h1
   simp [Array.getD, Array.getElem_append, hlt, hv]
   omega
  rw [e1, e2]
  exact h2.frame (Fr.refl (fun _ => False) w) (fun b hb => .inl (hb.elim id (by simp))) (fun _ h => h.elim) (Ext.refl _) (fun _ _ h => h)
 ·have : args.getD i .any = .any := by rw [List.getD_eq_getElem?_getD, List.getElem?_eq_none (by omega)]; rfl
  rw [this]
  exact .any _
theorem MC.ex {P : Program} {f : FuncId} {X : Type} {h : Heap} {args : List A} {ok : X → Prop} {res : X → A} {h' : X → Heap} (x : X) (hx : ok x) (hm : MC P f h args (res x) (h' x)) : MX P f h args ok res h' := fun w S0 vs φ fs a b c d e => (hm w S0 vs φ fs a b c d e).mono fun e w' he => ⟨x, hx, he⟩
end
end Go.Proofs.YtdcjlemkegifjaaGreat.Ab
