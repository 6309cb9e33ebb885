/- Functions that write their caller's memory. -/
import Derived.Test.YtpdhoimpbiehkaaAbMach4
namespace Go.Proofs.Ytpdhoimpbiehkaa.Ab
open Go
set_option linter.unusedVariables false
set_option linter.unusedSimpArgs false

def MCpost (w0 : World) (S0 : Nat → Prop) (fs0 : List Nat) (φ0 : List (Option Loc)) (K : Nat) (res : A) (h' : Heap) (e : Ending) (w' : World) : Prop :=
  ∃ v φ' fs', e = .returned v ∧ Rel w' (Sof S0 fs') φ' res v [] ∧ HRel w' (Sof S0 fs') φ' (h' ++ List.replicate K none) φ' fs' ∧ fs'.Nodup ∧ (∀ b ∈ fs', b ∈ fs0 ∨ w0.heap.size ≤ b) ∧ Ext φ0 φ' ∧ Fr (fun b => b ∈ fs0) w0 w'
/-- A function that turns its caller's heap h into h'; K: places that it used up. -/
def MC (P : Program) (f : FuncId) (K : Nat) (h : Heap) (args : List A) (res : A) (h' : Heap) : Prop :=
  ∀ (w : World) (S0 : Nat → Prop) (vs : List Value) (φ : List (Option Loc)) (fs : List Nat), (∀ b, S0 b → b < w.heap.size) → HRel w (Sof S0 fs) φ h φ fs → fs.Nodup → (∀ b ∈ fs, ¬ S0 b) → RelL w (Sof S0 fs) φ args vs [] →
    Calls P f vs.toArray w (MCpost w S0 fs φ K res h')

section
variable {w : World} {S : Nat → Prop} {φ : List (Option Loc)}
theorem HRel.part {h1 h2 : Heap} {ls : List (Option Loc)} {f : List Nat} (H : HRel w S φ (h1 ++ h2) ls f) : ∃ l1 l2 f1 f2, ls = l1 ++ l2 ∧ f = f1 ++ f2 ∧ HRel w S φ h1 l1 f1 ∧ HRel w S φ h2 l2 f2 := by
  induction h1 generalizing ls f with
  | nil => exact ⟨[], ls, [], f, rfl, rfl, .nil, H⟩
  | cons b h1 ih =>
    cases H with
    | cons hb hs =>
      obtain ⟨l1, l2, f1, f2, e1, e2, g1, g2⟩ := ih hs
      exact ⟨_ :: l1, l2, _ ++ f1, f2, by rw [e1]; rfl, by rw [e2, List.append_assoc], .cons hb g1, g2⟩
theorem HRel.nones (n : Nat) : ∀ {ls : List (Option Loc)}, ls.length = n → HRel w S φ (List.replicate n none) ls [] := by
  induction n with
  | zero => intro ls h; rw [List.length_eq_zero_iff.1 h]; exact .nil
  | succ n ih =>
    intro ls h
    cases ls with
    | nil => simp at h
    | cons l ls => exact HRel.cons (f := []) (fs := []) rfl (ih (by simpa using h))
end
section
variable {c : Cx} {k : List It} {st st' : St} {all : Array Oper} {o : Oper} {l : List Oper}
theorem G.callM {f fid : FuncId} {caps : List A} {fo : Operand} {args : Array Operand} {at_ : Array TypeId} {res : A} {h' : Heap} {K : Nat} (he : Enters c.P fid)
    (ho : o.op = .call { callee := .value fo, args := args, argTypes := at_ }) (hg : o.guard = none) (hf : ev st.env fo = .fn fid caps)
    (hc : MC c.P fid K st.heap (callArgs st.env args caps) res h')
    (hp : (withH st (h' ++ List.replicate K none)).putO o.dst res = some st') (h : G c (.ops all l :: k) st') : G c (.ops all (o :: l) :: k) st := by
  intro a w φ fs hr hb
  have hfv := ev_rel hr fo
  rw [hf] at hfv
  generalize hfe : a.eval fo = fv at hfv
  cases hfv with
  | fn hcaps =>
    rename_i cvs
    have hargs := (args_rel hr args.toList).append (f := []) (g := []) hcaps
    have hcall := hc w c.S0 (args.toList.map a.eval ++ cvs) φ fs hr.low hr.heap hr.nodup hr.apart hargs
    show wpList c.P all (cont c.P k c.Q) (o :: l) a w
    simp only [wpList]
    rw [if_pos (by simp [Region.wanted, hg])]
    refine .inl ?_
    unfold Oper.wp
    have hrun : (execOp a.eval o).run c.P w = .ok (.enter fid (args.toList.map a.eval ++ cvs).toArray) w := by
      unfold execOp
      rw [ho]
      simp only [resolve, hfe, Deferred.ofValue, invoke, Sem.run_bind, Sem.run_pure, Result.andThen_ok]
      have e : (#[] ++ Array.map a.eval args ++ cvs.toArray : Array Value) = (args.toList.map a.eval ++ cvs).toArray := by apply Array.ext'; simp
      rw [e]
      exact he _ w
    rw [hrun]
    simp only [Oper.upon]
    refine hcall.mono ?_
    rintro e w' ⟨v, φ', fs', rfl, h1, h2, h3, h4, h5, h6⟩
    have hs2 : SRel c.S0 (withH st (h' ++ List.replicate K none)) a w' φ' fs' :=
      ⟨hr.defers, hr.size, hr.env_frame h6 (fun _ h => h) h4 h5, h2, h3, fun b hb0 hS => (h4 b hb0).elim (fun h => hr.apart b h hS) (fun h => by have := hr.low b hS; omega), fun b hS => Nat.lt_of_lt_of_le (hr.low b hS) h6.size⟩
    exact h _ w' φ' fs' (hs2.putO h1 hp) (hb.step h6 (fun _ h => h) h4 h5)
/-- The end of a function that writes its caller's memory. -/
theorem G.doneM {P : Program} {T : Tab} {S0 : Nat → Prop} {w0 : World} {fs0 : List Nat} {φ0 : List (Option Loc)} {fn : Func} {rs : List ResultVar} {res : A} {xs : List A} {h' junk : Heap} {K : Nat} (hT : T.ok P) (hrs : fn.results.toList = rs) (hx : resAll T st.env st.heap rs = some xs) (hr : oneOrTup xs = res)
    (hh : st.heap = h' ++ junk) (hj : junk.length ≤ K) : G ⟨P, T, S0, w0, fs0, φ0, bodyPost P fn (MCpost w0 S0 fs0 φ0 K res h')⟩ (.code .ret :: k) st := by
  refine G.ret fun a w φ fs hs hb => ?_
  obtain ⟨vs, h1, h2⟩ := results_run hT hs (by rw [hrs]; exact hx)
  have hH := hs.heap
  rw [hh] at hH
  obtain ⟨l1, l2, f1, f2, e1, e2, g1, g2⟩ := hH.part
  have hl2 : l2.length = junk.length := g2.length
  have hsub : ∀ b, Sof S0 f1 b → Sof S0 fs b ∨ w.heap.size ≤ b := fun b hb => .inl (hb.imp id (fun h => by rw [e2]; simp [h]))
  have hext : Ext φ (φ ++ List.replicate (K - junk.length) none) := Ext.app _ _
  refine ⟨hs.defers, _, h1, _, φ ++ List.replicate (K - junk.length) none, f1, rfl, ?_, ?_, ?_, ?_, ?_, ?_⟩
  · rw [← hr]
    exact oneOrTup_rel (h2.frame (Fr.refl (fun _ => False) w) hsub (fun _ h => h.elim) hext (fun _ _ h => h))
  · have q1 := g1.frame (Fr.refl (fun _ => False) w) hsub (fun _ h => h.elim) hext (fun _ _ h => h)
    have q2 : HRel w (Sof S0 f1) (φ ++ List.replicate (K - junk.length) none) (List.replicate K none) (l2 ++ List.replicate (K - junk.length) none) [] := HRel.nones K (by simp [hl2]; omega)
    have := q1.append q2
    rw [List.append_nil] at this
    rw [e1, List.append_assoc] at this ⊢
    exact this
  · have := hs.nodup
    rw [e2] at this
    exact (List.nodup_append.1 this).1
  · exact fun b hb0 => hb.2.1 b (by rw [e2]; simp [hb0])
  · exact fun m l hm => hext m l (hb.2.2 m l hm)
  · exact hb.1
/-- How such a function begins. -/
theorem MC.of {P : Program} {T : Tab} {f : FuncId} {fn : Func} {code : Code} {args : List A} {res : A} {K : Nat} {hp h' : Heap} (hT : T.ok P) (hf : P.funcs[f]? = some fn) (hb : fn.body = some code) (hn : args.length ≤ fn.ntmps)
    (h : ∀ w0 S0 fs0 φ0, G ⟨P, T, S0, w0, fs0, φ0, bodyPost P fn (MCpost w0 S0 fs0 φ0 K res h')⟩ [.code code] ⟨(args.zipIdx 0).map fun x => (x.2, x.1), hp, fn.ntmps⟩) : MC P f K hp args res h' := by
  intro w S0 vs φ fs hlow hH hnd hap hr
  refine calls_of_wp hf hb ?_
  have hl := hr.length
  refine h w S0 fs φ { tmps := vs.toArray ++ Array.replicate (fn.ntmps - vs.toArray.size) undef, defers := [] } w φ fs ⟨rfl, by simp; omega, fun i => ?_, hH, hnd, hap, hlow⟩ ⟨Fr.refl _ w, fun b hb => .inl hb, Ext.refl _⟩
  rw [look_zip]
  simp only [Nat.zero_le, if_true, Nat.sub_zero]
  by_cases hi : i < args.length
  · obtain ⟨v, h1, h2⟩ := hr.none_at (k := i) (a := args[i]) (by simp [hi])
    have e1 : args.getD i .any = args[i] := by simp [hi]
    have e2 : (vs.toArray ++ Array.replicate (fn.ntmps - vs.toArray.size) undef).getD i undef = v := by
      have hlt : i < vs.length := by omega
      have hv : vs[i] = v := by rw [List.getElem?_eq_getElem hlt] at h1; injection h1
      simp [Array.getD, Array.getElem_append, hlt, hv]
      omega
    rw [e1, e2]
    exact h2
  · have e1 : args.getD i .any = .any := by simp [List.getD_eq_getElem?_getD, List.getElem?_eq_none (Nat.not_lt.1 hi)]
    rw [e1]
    exact .any _
end
end Go.Proofs.Ytpdhoimpbiehkaa.Ab
