/- A byte made a string; calls whose contract asks something of the memory that was there when the caller began. -/
import Derived.Test.YtdcjlemkegifjaaDoorFwB
import Derived.Laws.IdiomStrings
namespace Go.Proofs.YtdcjlemkegifjaaDoor.Ab
open Go
set_option linter.unusedVariables false
set_option linter.unusedSimpArgs false
section
variable {c : Cx} {k : List It} {st st' : St} {all : Array Oper} {o : Oper} {l : List Oper}
end
def ACw (C : World → Prop) (P : Program) (f : FuncId) (args : List A) (res : A) : Prop :=
 ∀ (w : World) (S0 : Nat → Prop) (vs : List Value), C w → (∀ b, S0 b → b < w.heap.size) → RelL w S0 [] args vs [] →
  Calls P f vs.toArray w fun e w' => ∃ v fb, e = .returned v ∧ Rel w' (Sof S0 fb) [] res v fb ∧ fb.Nodup ∧ (∀ b ∈ fb, w.heap.size ≤ b) ∧ Fr (fun _ => False) w w'
def Lasts (C : World → Prop) : Prop := ∀ w w' : World, Fr (fun _ => False) w w' → C w → C w'
section
variable {P : Program} {C : World → Prop}
theorem ACw.of {T : Tab} {f : FuncId} {fn : Func} {code : Code} {args : List A} {res : A} (hT : T.ok P) (hf : P.funcs[f]? = some fn) (hb : fn.body = some code) (hn : args.length ≤ fn.ntmps)
  (h : ∀ w0 S0, C w0 → G ⟨P, T, S0, w0, [], [], bodyPost P fn (ACpost w0 S0 res)⟩ [.code code] ⟨(args.zipIdx 0).map fun x => (x.2, x.1), [], fn.ntmps⟩) : ACw C P f args res := by
 intro w S0 vs hC hlow hr
 refine calls_of_wp hf hb ?_
 have hl := hr.length
 refine h w S0 hC { tmps := vs.toArray ++ Array.replicate (fn.ntmps - vs.toArray.size) undef, defers := [] } w [] [] ⟨rfl, by simp; omega, fun i => ?_, .nil, by simp, by simp, hlow⟩ ⟨Fr.refl _ w, by simp, Ext.refl _⟩
 rw [look_zip]
 simp only [Nat.zero_le, if_true, Nat.sub_zero]
 by_cases hi : i < args.length
 ·obtain ⟨v, h1, h2⟩ := hr.none_at (k := i) (a := args[i]) (by simp [hi])
  have e1 : args.getD i .any = args[i] := by simp [hi]
  have e2 : (vs.toArray ++ Array.replicate (fn.ntmps - vs.toArray.size) undef).getD i undef = v := by
   have hlt : i < vs.length := by omega
   have hv : vs[i] = v := by rw [List.getElem?_eq_getElem hlt] at h1; injection h1
   simp [Array.getD, Array.getElem_append, hlt, hv]
   omega
  rw [e1, e2]
  exact h2.frame (Fr.refl (fun _ => False) w) (fun b hb => .inl (hb.elim id (by simp))) (fun _ h => h.elim) (Ext.refl _) (fun _ _ h => h)
 ·have : args.getD i .any = .any := by rw [List.getD_eq_getElem?_getD, List.getElem?_eq_none (by omega)]; rfl
  rw [this]
  exact .any _
end
section
variable {c : Cx} {k : List It} {st st' : St} {all : Array Oper} {o : Oper} {l : List Oper} {C : World → Prop}
theorem G.callW {fid : FuncId} {caps : List A} {fo : Operand} {args : Array Operand} {at_ : Array TypeId} {vargs : List A} {res : A} (hL : Lasts C) (hC : C c.w0) (hfs : c.fs0 = []) (he : Enters c.P fid) (hc : ACw C c.P fid vargs res)
  (ho : o.op = .call { callee := .value fo, args := args, argTypes := at_ }) (hg : o.guard = none) (hf : ev st.env fo = .fn fid caps) (hva : vwL st.heap (callArgs st.env args caps) = vargs) (hn : noLoan res = true)
  (hp : (withH st (st.heap ++ (matA st.heap.length res).2)).putO o.dst (matA st.heap.length res).1 = some st') (h : G c (.ops all l :: k) st') : G c (.ops all (o :: l) :: k) st := by
 intro a w φ fs hr hb
 show wpList c.P all (cont c.P k c.Q) (o :: l) a w
 simp only [wpList]
 rw [if_pos (by simp [Region.wanted, hg])]
 refine .inl ?_
 have hCw : C w := hL c.w0 w ⟨hb.1.os, hb.1.tape, hb.1.output, hb.1.size, fun b hlt _ => hb.1.block b hlt (by rw [hfs]; simp)⟩ hC
 have hfv := ev_rel hr fo
 rw [hf] at hfv
 generalize hfe : a.eval fo = fv at hfv
 cases hfv with
 | fn hcaps =>
  rename_i cvs
  have hargs : RelL w (Sof c.S0 fs) φ (callArgs st.env args caps) (args.toList.map a.eval ++ cvs) [] := (args_rel hr args.toList).append (f := []) (g := []) hcaps
  have hrun : (execOp a.eval o).run c.P w = .ok (.enter fid (args.toList.map a.eval ++ cvs).toArray) w := by
   unfold execOp
   rw [ho]
   simp only [resolve, hfe, Deferred.ofValue, invoke, Sem.run_bind, Sem.run_pure, Result.andThen_ok]
   have e : (#[] ++ Array.map a.eval args ++ cvs.toArray : Array Value) = (args.toList.map a.eval ++ cvs).toArray := by apply Array.ext'; simp
   rw [e]
   exact he _ w
  unfold Oper.wp
  rw [hrun]
  simp only [Oper.upon]
  have hvr := vwL_rel hr hargs
  rw [hva] at hvr
  refine (hc w c.S0 _ hCw hr.low hvr).mono ?_
  rintro e w' ⟨v, fb, rfl, h1, h2, h3, h4⟩
  obtain ⟨φ', fs', g1, g2, g3, g4⟩ := hr.called h1 h2 h3 h4 (.inl hn)
  exact h _ w' φ' fs' (g1.putO g4 hp) (hb.step h4 (fun _ h => h.elim) g2 g3)
end
end Go.Proofs.YtdcjlemkegifjaaDoor.Ab
