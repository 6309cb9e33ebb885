/- Functions of which only something is known about what they answer. -/
import Derived.Test.YtimgfinlbhodhaaFwB
namespace Go.Proofs.Ytimgfinlbhodhaa.Ab
open Go
set_option linter.unusedVariables false
set_option linter.unusedSimpArgs false
def MX (P : Program) (f : FuncId) {X : Type} (h : Heap) (args : List A) (ok : X → Prop) (res : X → A) (h' : X → Heap) : Prop :=
 ∀ (w : World) (S0 : Nat → Prop) (vs : List Value) (φ : List (Option Loc)) (fs : List Nat), (∀ b, S0 b → b < w.heap.size) → HRel w (Sof S0 fs) φ h φ fs → fs.Nodup → (∀ b ∈ fs, ¬ S0 b) → RelL w (Sof S0 fs) φ args vs [] →
  Calls P f vs.toArray w (fun e w' => ∃ x, ok x ∧ MCpost w S0 fs φ (res x) (h' x) e w')
def AX (P : Program) (f : FuncId) {X : Type} (args : List A) (ok : X → Prop) (res : X → A) : Prop :=
 ∀ (w : World) (S0 : Nat → Prop) (vs : List Value), (∀ b, S0 b → b < w.heap.size) → RelL w S0 [] args vs [] →
  Calls P f vs.toArray w (fun e w' => ∃ x, ok x ∧ ACpost w S0 (res x) e w')
section
variable {c : Cx} {k : List It} {st : St} {all : Array Oper} {o : Oper} {l : List Oper}
theorem G.callFX {X : Type} {ok : X → Prop} {resX : X → A} {hX : X → Heap} {fid : FuncId} {caps : List A} {fo : Operand} {args : Array Operand} {at_ : Array TypeId} {hsel : Heap} {vargs : List A} (sel : List Nat) (he : Enters c.P fid)
  (ho : o.op = .call { callee := .value fo, args := args, argTypes := at_ }) (hg : o.guard = none) (hf : ev st.env fo = .fn fid caps) (hsn : sel.Nodup) (hsl : ∀ m ∈ sel, m < st.heap.length)
  (h1 : rnH st.heap sel = hsel) (h2 : rnL sel (callArgs st.env args caps) = vargs) (hc : MX c.P fid hsel vargs ok resX hX) (hlenX : ∀ x, ok x → sel.length ≤ (hX x).length)
  (hh : ∀ x, ok x → ∃ st', (withH st (mergeH st.heap sel (hX x))).putO o.dst (mpA (bkI sel st.heap.length) (resX x)) = some st' ∧ G c (.ops all l :: k) st') : G c (.ops all (o :: l) :: k) st := by
 subst h1 h2
 intro a w φ fs hr hb
 have hfv := ev_rel hr fo
 rw [hf] at hfv
 generalize hfe : a.eval fo = fv at hfv
 cases hfv with
 | fn hcaps =>
  rename_i cvs
  have hargs : RelL w (Sof c.S0 fs) φ (callArgs st.env args caps) (args.toList.map a.eval ++ cvs) [] := (args_rel hr args.toList).append (f := []) (g := []) hcaps
  have hφl := hr.heap.length
  obtain ⟨fr, fk, g1, g2, g3⟩ := rn_split sel sel hr.heap hr.nodup hsn
  have hnd := List.nodup_append.1 (g3.nodup hr.nodup)
  have hkf : ∀ b ∈ fk, b ∈ fs := fun b hb => g3.mem_iff.2 (by simp [hb])
  have hrf : ∀ b ∈ fr, b ∈ fs := fun b hb => g3.mem_iff.2 (by simp [hb])
  let S1 : Nat → Prop := fun b => c.S0 b ∨ b ∈ fr
  have hS1 : ∀ b, Sof S1 fk b → Sof c.S0 fs b := fun b hb => by
   rcases hb with (hb | hb) | hb
   ·exact .inl hb
   ·exact .inr (hrf b hb)
   ·exact .inr (hkf b hb)
  have hlow1 : ∀ b, S1 b → b < w.heap.size := fun b hb => hb.elim (hr.low b) (fun hb => hr.heap.lt b (hrf b hb))
  have hap1 : ∀ b ∈ fk, ¬ S1 b := fun b hb hS => hS.elim (hr.apart b (hkf b hb)) (fun h => hnd.2.2 b h b hb rfl)
  have hargs1 := (rnL_rel (sel := sel) hargs).frame (S' := Sof S1 fk) (Fr.refl (fun _ => False) w) (fun b hb => .inl (hS1 b hb)) (fun _ h => h.elim) (Ext.refl _) (fun _ _ h => h)
  have hcall := hc w S1 (args.toList.map a.eval ++ cvs) (pickφ φ sel) fk hlow1 (g1.sub hS1) hnd.2.1 hap1 hargs1
  show wpList c.P all (cont c.P k c.Q) (o :: l) a w
  simp only [wpList]
  rw [if_pos (by simp [Region.wanted, hg])]
  refine .inl ?_
  unfold Oper.wp
  have hrun : (execOp a.eval o).run c.P w = .ok (.enter fid (args.toList.map a.eval ++ cvs).toArray) w := by
   unfold execOp
   rw [ho]
   simp only [resolve, hfe, Deferred.ofValue, invoke, Sem.run_bind, Sem.run_pure, Result.andThen_ok]
   have e : (#[] ++ Array.map a.eval args ++ cvs.toArray : Array Value) = (args.toList.map a.eval ++ cvs).toArray := by apply Array.ext'; simp
   rw [e]
   exact he _ w
  rw [hrun]
  simp only [Oper.upon]
  refine hcall.mono ?_
  rintro e w' ⟨x, hx, v, φ2, fs2, rfl, r1, r2, r3, r4, r5, r6⟩
  obtain ⟨st', hp, h⟩ := hh x hx
  have hlen := hlenX x hx
  generalize hX x = h' at *
  generalize resX x = res at *
  have hl2 := r2.length
  -- the names
  let Φ : List (Option Loc) := putAll φ sel (φ2.take sel.length) ++ φ2.drop sel.length
  have hΦn : ∀ i l, φ2[i]? = some (some l) → Φ[bkI sel st.heap.length i]? = some (some l) := by
   intro i l hi
   unfold bkI
   cases hs : sel[i]? with
   | some m =>
    have hil := (List.getElem?_eq_some_iff.1 hs).1
    have hm : m ∈ sel := List.mem_of_getElem? hs
    have hml := hsl m hm
    have : (putAll φ sel (φ2.take sel.length))[m]? = some (some l) := putAll_in sel φ _ i m _ hsn (fun x hx => by rw [hφl]; exact hsl x hx) hs (by rw [List.getElem?_take_of_lt hil]; exact hi)
    show (putAll φ sel (φ2.take sel.length) ++ φ2.drop sel.length)[m]? = _
    rw [List.getElem?_append_left (by rw [putAll_len, hφl]; exact hml)]
    exact this
   | none =>
    have hil : sel.length ≤ i := by simpa using hs
    show (putAll φ sel (φ2.take sel.length) ++ φ2.drop sel.length)[st.heap.length + (i - sel.length)]? = _
    rw [List.getElem?_append_right (by rw [putAll_len, hφl]; omega), putAll_len, hφl, List.getElem?_drop]
    rw [show sel.length + (st.heap.length + (i - sel.length) - st.heap.length) = i by omega]
    exact hi
  have hext : Ext φ Φ := by
   intro m l hm
   have hml := (List.getElem?_eq_some_iff.1 hm).1
   show (putAll φ sel (φ2.take sel.length) ++ φ2.drop sel.length)[m]? = _
   rw [List.getElem?_append_left (by rw [putAll_len]; exact hml)]
   by_cases hms : m ∈ sel
   ·obtain ⟨i, hi⟩ := List.getElem?_of_mem hms
    have hil := (List.getElem?_eq_some_iff.1 hi).1
    have hp : (pickφ φ sel)[i]? = some (some l) := by unfold pickφ; rw [List.getElem?_map, hi]; simp [hm]
    exact putAll_in sel φ _ i m _ hsn (fun x hx => by rw [hφl]; exact hsl x hx) hi (by rw [List.getElem?_take_of_lt hil]; exact r5 i l hp)
   ·rw [putAll_out _ _ _ _ hms]; exact hm
  -- the memory
  have hmem2 : ∀ b ∈ fs2, b ∈ fs ∨ w.heap.size ≤ b := fun b hb => (r4 b hb).imp (hkf b) id
  have hdis : ∀ x ∈ fr, ∀ y ∈ fs2, x ≠ y := fun x hx y hy e => by
   subst e
   rcases r4 x hy with h | h
   ·exact hnd.2.2 x hx x h rfl
   ·have := hr.heap.lt x (hrf x hx); omega
  have hfT : ∀ b, b ∈ fk → Sof c.S0 fs b := fun b hb => .inr (hkf b hb)
  have hSn : ∀ (fn : List Nat), (∀ b ∈ fn, b ∈ fr ++ fs2) → ∀ b, Sof c.S0 fn b → Sof c.S0 fs b ∨ w.heap.size ≤ b := fun fn hfn b hb => by
   rcases hb with hb | hb
   ·exact .inl (.inl hb)
   ·rcases List.mem_append.1 (hfn b hb) with h | h
    ·exact .inl (.inr (hrf b h))
    ·exact (hmem2 b h).imp .inr id
  have hS2 : ∀ (fn : List Nat), (∀ b ∈ fn, b ∈ fr ++ fs2) → ∀ b, Sof c.S0 fn b → Sof S1 fs2 b := fun fn hfn b hb => by
   rcases hb with hb | hb
   ·exact .inl (.inl hb)
   ·rcases List.mem_append.1 (hfn b hb) with h | h
    ·exact .inl (.inr h)
    ·exact .inr h
  have key : ∃ fn, HRel w' (Sof c.S0 fn) Φ (mergeH st.heap sel h') Φ fn ∧ fn.Perm (fr ++ fs2) := by
   have HR := g2.frame (S' := Sof c.S0 (fr ++ fs2)) r6 (hSn _ (fun _ h => h)) hfT hext (fun g hg hk => hnd.2.2 g hg g hk rfl)
   have HN := mpH_rel hΦn (r2.sub (S' := Sof c.S0 (fr ++ fs2)) (hS2 _ (fun _ h => h)))
   have hsplit : mpH (bkI sel st.heap.length) h' = (mpH (bkI sel st.heap.length) h').take sel.length ++ (mpH (bkI sel st.heap.length) h').drop sel.length := (List.take_append_drop _ _).symm
   rw [hsplit] at HN
   obtain ⟨l1, l2, f1, f2, e1, e2, q1, q2⟩ := HN.part
   have hl1 : l1.length = sel.length := by rw [q1.length, List.length_take, mpH_len]; omega
   obtain ⟨f, p1, p2⟩ := put_rel sel HR (fun m hm => killAll_in _ _ _ hm (hsl m hm)) hsn q1 (by rw [List.length_take, mpH_len]; omega)
   have hH := p1.append q2
   have ht : φ2.take sel.length = l1 := by rw [e1, ← hl1]; simp
   have hd : φ2.drop sel.length = l2 := by rw [e1, ← hl1]; simp
   refine ⟨f ++ f2, ?_, ?_⟩
   ·have hperm : (f ++ f2).Perm (fr ++ fs2) := by
     rw [e2, ← List.append_assoc]
     exact List.Perm.append_right f2 p2
    have hΦ : Φ = putAll φ sel l1 ++ l2 := by show putAll φ sel (φ2.take sel.length) ++ φ2.drop sel.length = _; rw [ht, hd]
    have h3 := hH.sub (S' := Sof c.S0 (f ++ f2)) (fun b hb => hb.imp id (fun h => hperm.mem_iff.1 h))
    have h4 : HRel w' (Sof c.S0 (f ++ f2)) Φ (mergeH st.heap sel h') (putAll φ sel l1 ++ l2) (f ++ f2) := h3
    rw [← hΦ] at h4
    exact h4
   ·rw [e2, ← List.append_assoc]
    exact List.Perm.append_right f2 p2
  obtain ⟨fn, k1, k2⟩ := key
  have hfn : ∀ b ∈ fn, b ∈ fs ∨ w.heap.size ≤ b := fun b hb => by
   rcases List.mem_append.1 (k2.mem_iff.1 hb) with h | h
   ·exact .inl (hrf b h)
   ·exact hmem2 b h
  have hst := hr.to (w' := w') (T := fun b => b ∈ fk) (φ' := Φ) (h' := mergeH st.heap sel h') (fs' := fn) r6 (fun b hb => hkf b hb) hfn hext (k2.symm.nodup (List.nodup_append.2 ⟨hnd.1, r3, hdis⟩)) k1
  have hres := (mpA_rel hΦn r1).frame (S' := Sof c.S0 fn) (Fr.refl (fun _ => False) w') (fun b hb => .inl (hS2 fn (fun b h => k2.mem_iff.1 h) b hb)) (fun _ h => h.elim) (Ext.refl _) (fun _ _ h => h)
  have hst2 : SRel c.S0 (withH st (mergeH st.heap sel h')) a w' Φ fn := hst
  exact h _ w' Φ fn (hst2.putO hres hp) (hb.step r6 (fun b hb => hkf b hb) hfn hext)
theorem G.callPX {X : Type} {ok : X → Prop} {resX : X → A} {fid : FuncId} {caps : List A} {fo : Operand} {args : Array Operand} {at_ : Array TypeId} {vargs : List A} (he : Enters c.P fid)
  (ho : o.op = .call { callee := .value fo, args := args, argTypes := at_ }) (hg : o.guard = none) (hf : ev st.env fo = .fn fid caps) (hp1 : pureL (callArgs st.env args caps) = true) (hn1 : noRefL (callArgs st.env args caps) = true)
  (hva : callArgs st.env args caps = vargs) (hc : AX c.P fid vargs ok resX)
  (hh : ∀ x, ok x → ∃ st', (withH st (st.heap ++ (matA st.heap.length (resX x)).2)).putO o.dst (matA st.heap.length (resX x)).1 = some st' ∧ G c (.ops all l :: k) st') : G c (.ops all (o :: l) :: k) st := by
 intro a w φ fs hr hb
 have hfv := ev_rel hr fo
 rw [hf] at hfv
 generalize hfe : a.eval fo = fv at hfv
 cases hfv with
 | fn hcaps =>
  rename_i cvs
  have hargs := (args_rel hr args.toList).append (f := []) (g := []) hcaps
  have hpure := pureL_rel hp1 hargs
  have hcall := hc w (Sof c.S0 fs) (args.toList.map a.eval ++ cvs) (fun b hb => hb.elim (hr.low b) (hr.heap.lt b)) (by rw [← hva]; exact hpure)
  show wpList c.P all (cont c.P k c.Q) (o :: l) a w
  simp only [wpList]
  rw [if_pos (by simp [Region.wanted, hg])]
  refine .inl ?_
  unfold Oper.wp
  have hrun : (execOp a.eval o).run c.P w = .ok (.enter fid (args.toList.map a.eval ++ cvs).toArray) w := by
   unfold execOp
   rw [ho]
   simp only [resolve, hfe, Deferred.ofValue, invoke, Sem.run_bind, Sem.run_pure, Result.andThen_ok]
   have e : (#[] ++ Array.map a.eval args ++ cvs.toArray : Array Value) = (args.toList.map a.eval ++ cvs).toArray := by apply Array.ext'; simp
   rw [e]
   exact he _ w
  rw [hrun]
  simp only [Oper.upon]
  refine hcall.mono ?_
  rintro e w' ⟨x, hx, v, fb, rfl, h1, h2, h3, h4⟩
  obtain ⟨st', hp, h⟩ := hh x hx
  have h0 : Rel w' (Sof c.S0 fb) [] (resX x) v fb := h1.frame (Fr.refl (fun _ => False) w') (fun b hb => .inl (hb.imp .inl id)) (fun _ h => h.elim) (Ext.refl _) (fun _ _ h => h)
  obtain ⟨φ', fs', g1, g2, g3, g4⟩ := hr.called h0 h2 h3 h4 (.inr h1)
  exact h _ w' φ' fs' (g1.putO g4 hp) (hb.step h4 (fun _ h => h.elim) g2 g3)
end
section
variable {k : List It} {st : St}
theorem MX.of {X : Type} {ok : X → Prop} {resX : X → A} {hX : X → Heap} {P : Program} {T : Tab} {f : FuncId} {fn : Func} {code : Code} {args : List A} {hp : Heap} (hT : T.ok P) (hf : P.funcs[f]? = some fn) (hb : fn.body = some code) (hn : args.length ≤ fn.ntmps)
  (h : ∀ w0 S0 fs0 φ0, φ0.length = hp.length → hrefs hp.length hp = true → G ⟨P, T, S0, w0, fs0, φ0, bodyPost P fn (fun e w => ∃ x, ok x ∧ MCpost w0 S0 fs0 φ0 (resX x) (hX x) e w)⟩ [.code code] ⟨(args.zipIdx 0).map fun x => (x.2, x.1), hp, fn.ntmps⟩) : MX P f hp args ok resX hX := by
 intro w S0 vs φ fs hlow hH hnd hap hr
 refine calls_of_wp hf hb ?_
 have hl := hr.length
 have hq := hH.refs
 rw [hH.length] at hq
 refine h w S0 fs φ hH.length hq { tmps := vs.toArray ++ Array.replicate (fn.ntmps - vs.toArray.size) undef, defers := [] } w φ fs ⟨rfl, by simp; omega, fun i => ?_, hH, hnd, hap, hlow⟩ ⟨Fr.refl _ w, fun b hb => .inl hb, Ext.refl _⟩
 rw [look_zip]
 simp only [Nat.zero_le, if_true, Nat.sub_zero]
 by_cases hi : i < args.length
 ·obtain ⟨v, h1, h2⟩ := hr.none_at (k := i) (a := args[i]) (by simp [hi])
  have e1 : args.getD i .any = args[i] := by simp [hi]
  have e2 : (vs.toArray ++ Array.replicate (fn.ntmps - vs.toArray.size) undef).getD i undef = v := by
   have hlt : i < vs.length := by omega
   have hv : vs[i] = v := by rw [List.getElem?_eq_getElem hlt] at h1; injection h1
   simp [Array.getD, Array.getElem_append, hlt, hv]
   omega
  rw [e1, e2]
  exact h2
 ·have e1 : args.getD i .any = .any := by simp [List.getD_eq_getElem?_getD, List.getElem?_eq_none (Nat.not_lt.1 hi)]
  rw [e1]
  exact .any _
theorem AX.of {X : Type} {ok : X → Prop} {resX : X → A} {P : Program} {T : Tab} {f : FuncId} {fn : Func} {code : Code} {args : List A} (hT : T.ok P) (hf : P.funcs[f]? = some fn) (hb : fn.body = some code) (hn : args.length ≤ fn.ntmps)
  (h : ∀ w0 S0, G ⟨P, T, S0, w0, [], [], bodyPost P fn (fun e w => ∃ x, ok x ∧ ACpost w0 S0 (resX x) e w)⟩ [.code code] ⟨(args.zipIdx 0).map fun x => (x.2, x.1), [], fn.ntmps⟩) : AX P f args ok resX := by
 intro w S0 vs hlow hr
 refine calls_of_wp hf hb ?_
 have hl := hr.length
 refine h w S0 { tmps := vs.toArray ++ Array.replicate (fn.ntmps - vs.toArray.size) undef, defers := [] } w [] [] ⟨rfl, by simp; omega, fun i => ?_, .nil, by simp, by simp, hlow⟩ ⟨Fr.refl _ w, by simp, Ext.refl _⟩
 rw [look_zip]
 simp only [Nat.zero_le, if_true, Nat.sub_zero]
 by_cases hi : i < args.length
 ·obtain ⟨v, h1, h2⟩ := hr.none_at (k := i) (a := args[i]) (by simp [hi])
  have e1 : args.getD i .any = args[i] := by simp [hi]
  have e2 : (vs.toArray ++ Array.replicate (fn.ntmps - vs.toArray.size) undef).getD i undef = v := by
   have hlt : i < vs.length := by omega
   have hv : vs[i] = v := by rw [List.getElem?_eq_getElem hlt] at h1; injection h1
   simp [Array.getD, Array.getElem_append, hlt, hv]
   omega
  rw [e1, e2]
  exact h2.frame (Fr.refl (fun _ => False) w) (fun b hb => .inl (hb.elim id (by simp))) (fun _ h => h.elim) (Ext.refl _) (fun _ _ h => h)
 ·have : args.getD i .any = .any := by rw [List.getD_eq_getElem?_getD, List.getElem?_eq_none (by omega)]; rfl
  rw [this]
  exact .any _
theorem G.doneMX {X : Type} {ok : X → Prop} {resX : X → A} {hX : X → Heap} (x : X) (hok : ok x) {P : Program} {T : Tab} {S0 : Nat → Prop} {w0 : World} {fs0 : List Nat} {φ0 : List (Option Loc)} {fn : Func} {rs : List ResultVar} {xs : List A} {junk : Heap} (hT : T.ok P) (hrs : fn.results.toList = rs) (hx : resAll T st.env st.heap rs = some xs) (hr : oneOrTup xs = resX x)
  (hh : st.heap = hX x ++ junk) (hp : refA (hX x).length (resX x) = true) (hq : hrefs (hX x).length (hX x) = true) (hl : φ0.length ≤ (hX x).length) : G ⟨P, T, S0, w0, fs0, φ0, bodyPost P fn (fun e w => ∃ x, ok x ∧ MCpost w0 S0 fs0 φ0 (resX x) (hX x) e w)⟩ (.code .ret :: k) st := by
 refine G.ret fun a w φ fs hs hb => ?_
 obtain ⟨vs, h1, h2⟩ := results_run hT hs (by rw [hrs]; exact hx)
 have hH := hs.heap
 rw [hh] at hH
 obtain ⟨l1, l2, f1, f2, e1, e2, g1, g2⟩ := hH.part
 have hl1 : l1.length = (hX x).length := g1.length
 have hsub : ∀ b, Sof S0 f1 b → Sof S0 fs b ∨ w.heap.size ≤ b := fun b hb => .inl (hb.imp id (fun h => by rw [e2]; simp [h]))
 have htk : φ.take (hX x).length = l1 := by rw [e1, ← hl1]; simp
 refine ⟨hs.defers, _, h1, x, hok, _, l1, f1, rfl, ?_, ?_, ?_, ?_, ?_, ?_⟩
 ·rw [← hr] at hp ⊢
  have := (oneOrTup_rel h2).cut hp
  rw [htk] at this
  exact this.frame (Fr.refl (fun _ => False) w) hsub (fun _ h => h.elim) (Ext.refl _) (fun _ _ h => h)
 ·have := g1.cut hq
  rw [htk] at this
  exact this.frame (Fr.refl (fun _ => False) w) hsub (fun _ h => h.elim) (Ext.refl _) (fun _ _ h => h)
 ·have := hs.nodup
  rw [e2] at this
  exact (List.nodup_append.1 this).1
 ·exact fun b hb0 => hb.2.1 b (by rw [e2]; simp [hb0])
 ·intro m l hm
  have h0 := hb.2.2 m l hm
  have hlt := (List.getElem?_eq_some_iff.1 hm).1
  rw [e1] at h0
  rw [List.getElem?_append_left (by omega)] at h0
  exact h0
 ·exact hb.1
theorem G.doneX {X : Type} {ok : X → Prop} {resX : X → A} (x : X) (hok : ok x) {P : Program} {T : Tab} {S0 : Nat → Prop} {w0 : World} {fn : Func} {xs xs' : List A} {h' : Heap} (hT : T.ok P) (hx : resAll T st.env st.heap fn.results.toList = some xs) (hf : foldL st.heap xs = some (xs', h')) (hr : oneOrTup xs' = resX x) :
  G ⟨P, T, S0, w0, [], [], bodyPost P fn (fun e w => ∃ x, ok x ∧ ACpost w0 S0 (resX x) e w)⟩ (.code .ret :: k) st := by
 refine G.ret fun a w φ fs hs hb => ?_
 obtain ⟨vs, h1, h2⟩ := results_run hT hs hx
 obtain ⟨fr, fx, g1, g2, g3⟩ := foldL_rel hs.heap (by simpa using hs.nodup) h2 hf
 have g3b : ∀ b ∈ fx, b ∈ fs := fun b hb => by simpa using g3.2 b (by simp [hb])
 refine ⟨hs.defers, _, h1, x, hok, _, fx, rfl, ?_, (List.nodup_append.1 g3.1).2.1, ?_, ?_⟩
 ·rw [← hr]
  exact oneOrTup_rel (g1.frame (Fr.refl (fun _ => False) w) (fun b hb => .inl (hb.imp id (g3b b))) (fun _ h => h.elim) (Ext.refl _) (fun _ _ h => h))
 ·intro b hb'
  exact (hb.2.1 b (g3b b hb')).resolve_left (by simp)
 ·exact hb.1.mono (fun b hb => by simp at hb)
theorem G.fam {c : Cx} {k k' : List It} {st : St} {X : Type} (s : X → St) (ok : X → Prop) (h1 : (∀ x, ok x → G c k' (s x)) → G c k st) (h2 : ∀ x, ok x → G c k' (s x)) : G c k st := h1 h2
theorem G.toFam {c : Cx} {k : List It} {st : St} {X : Type} {s : X → St} {ok : X → Prop} (h : ∀ x, ok x → G c k (s x)) (x : X) (hx : ok x) (e : st = s x) : G c k st := by rw [e]; exact h x hx
theorem MC.ex {P : Program} {f : FuncId} {X : Type} {h : Heap} {args : List A} {ok : X → Prop} {res : X → A} {h' : X → Heap} (x : X) (hx : ok x) (hm : MC P f h args (res x) (h' x)) : MX P f h args ok res h' := fun w S0 vs φ fs a b c d e => (hm w S0 vs φ fs a b c d e).mono fun e w' he => ⟨x, hx, he⟩
end
end Go.Proofs.Ytimgfinlbhodhaa.Ab
