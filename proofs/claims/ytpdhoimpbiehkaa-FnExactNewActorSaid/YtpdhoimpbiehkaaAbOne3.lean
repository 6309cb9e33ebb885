/- One operation that leaves the memory alone: all of them. -/
import Derived.Test.YtpdhoimpbiehkaaAbOne2
namespace Go.Proofs.Ytpdhoimpbiehkaa.Ab
open Go
set_option linter.unusedVariables false
set_option linter.unusedSimpArgs false

section
variable {P : Program} {T : Tab} {S0 : Nat → Prop} {st : St} {a : Act} {w : World} {φ : List (Option Loc)} {fs : List Nat}

theorem under_struct {t : Nat} {i : TI} {fl : List (Nat × Nat)} (h : i.fits P t = true) (hk : i.kind = .struct fl) : ∃ fields : Array Field, P.underlying t = some (.struct fields) ∧ fields.toList.map (fun f => (f.offset, ((P.info? f.type).map (·.size)).getD 0)) = fl ∧ ∀ x ∈ fl, x.2 ≠ 0 := by
  obtain ⟨d, inf, z, h1, h2, h3, h4, h5, h6, h7, h8⟩ := fits_info h
  rw [hk] at h3
  cases d <;> simp only [TK.fits, Bool.false_eq_true] at h3
  rename_i fields
  simp only [Bool.and_eq_true, beq_iff_eq, List.all_eq_true, bne_iff_ne] at h3
  exact ⟨fields, h1, h3.1, h3.2⟩

theorem under_str {t : Nat} {i : TI} (h : i.fits P t = true) (hk : i.kind = .str) : P.underlying t = some .string := by
  obtain ⟨d, inf, z, h1, h2, h3, h4, h5, h6, h7, h8⟩ := fits_info h
  rw [h1]
  rw [hk] at h3
  cases d <;> simp_all [TK.fits]
theorem field_run {s f : Nat} {i : TI} {fl : List (Nat × Nat)} {p : Nat × Nat} (h : i.fits P s = true) (hk : i.kind = .struct fl) (hf : fl[f]? = some p) (ad : Addr) (w : World) :
    (Instr.fieldAt s (.pointer (some ad)) f).run P w = .ok (.pointer (some (ad.add p.1))) w := by
  obtain ⟨fields, hu, hm, hz⟩ := under_struct h hk
  have hp := hz p (List.mem_of_getElem? hf)
  rw [← hm, List.getElem?_map] at hf
  obtain ⟨fd, h1, h2⟩ := Option.map_eq_some_iff.1 hf
  have h1' : fields[f]? = some fd := by simpa using h1
  subst h2
  simp only at hp ⊢
  cases hi : P.info? fd.type with
  | none => rw [hi] at hp; simp at hp
  | some inf =>
    rw [hi] at hp
    simp only [Option.map_some, Option.getD_some] at hp
    simp [Instr.fieldAt, run_underlying hu, h1', Instr.sureAddr, fieldPlace, sizeOf, typeInfo, hi, hp]

theorem index_run {t e : Nat} {i j : TI} (h : i.fits P t = true) (hk : i.kind = .slice e) (hj : j.fits P e = true) (ad : Addr) (len cap : Nat) (k : IntKind) (n : Int) (h0 : 0 ≤ n) (h1 : n < (len : Int)) (w : World) :
    (Instr.indexAt t (.slice (some ad) len cap) (.int k n)).run P w = .ok (.pointer (some (ad.add (n.toNat * j.size)))) w := by
  have hu := under_slice h hk
  have hel := elem_of hu
  rw [run_indexAt_slice (P := P) w t ad len cap k n (by rw [hel]; exact hu)]
  simp only [h0, h1, and_self, if_true, hel, run_sizeOf_fit hj w, Result.andThen]

theorem built_fit {t : Nat} {i : TI} {fl : List (Nat × Nat)} {parts : List (Nat × Value)} {out : Array Value} (h : i.fits P t = true) (hk : i.kind = .struct fl)
    (hz : ∀ z : Value, (P.info? t).bind (·.zero) = some z → Instr.fill (fl[·]?) z.cells parts = some out) : P.built t parts = some out := by
  obtain ⟨fields, hu, hm, hnz⟩ := under_struct h hk
  obtain ⟨d, inf, z, h1, h2, h3, h4, h5, h6, h7, h8⟩ := fits_info h
  have hmm : fields.toList.mapM (fun f => (P.info? f.type).map fun i => (f.offset, i.size)) = some fl := by
    rw [← hm]
    have hall : ∀ f ∈ fields.toList, ((P.info? f.type).map (·.size)).getD 0 ≠ 0 := fun f hf => hnz (f.offset, _) (by rw [← hm]; exact List.mem_map.2 ⟨f, hf, rfl⟩)
    clear hm hnz hu
    generalize fields.toList = L at hall ⊢
    induction L with
    | nil => rfl
    | cons f l ih =>
      have hf := hall f (by simp)
      have ih' := ih (fun g hg => hall g (by simp [hg]))
      cases hi : P.info? f.type with
      | none => rw [hi] at hf; simp at hf
      | some inf => simp [List.mapM_cons, hi, ih']
  unfold Program.built
  rw [h2, hu]
  simp only [h6, hmm]
  have := hz z (by rw [h2]; exact h6)
  rw [← this]
  congr 1
  funext k
  simp

set_option maxHeartbeats 1000000 in
theorem aval1_run (hT : T.ok P) (h : SRel S0 st a w φ fs) {o : Oper} {x : A} (hv : aval1 T st.env st.heap o.op = some x) :
    ∃ v, (execOp a.eval o).run P w = .ok (.value v) w ∧ Rel w (Sof S0 fs) φ x v [] := by
  have lift : ∀ (s : Sem Value), (∃ v, s.run P w = .ok v w ∧ Rel w (Sof S0 fs) φ x v []) → ∃ v, ((do pure (.value (← s)) : Sem Next)).run P w = .ok (.value v) w ∧ Rel w (Sof S0 fs) φ x v [] := by
    rintro s ⟨v, h1, h2⟩
    exact ⟨v, by simp [h1], h2⟩
  unfold execOp
  cases hop : o.op <;> rw [hop] at hv <;> simp only [aval1, reduceCtorEq] at hv
  case move y => injection hv with hv; subst hv; exact ⟨_, rfl, ev_rel h y⟩
  case assign y => injection hv with hv; subst hv; exact ⟨_, rfl, ev_rel h y⟩
  case pick c y z =>
    split at hv
    · rename_i t ht
      injection hv with hv
      subst hv
      have hc := ev_rel h c
      rw [ht] at hc
      generalize hcv : a.eval c = cv at hc
      cases hc
      refine ⟨if t then a.eval y else a.eval z, ?_, ?_⟩
      · simp [hcv, asBool]
      · cases t
        · exact ev_rel h z
        · exact ev_rel h y
    · cases hv
  case binOp op t y z t2 =>
    obtain ⟨r, h1, h2⟩ := abin_run hT t hv (ev_rel h y) (ev_rel h z)
    exact lift _ ⟨r, h1 _ _ w, h2⟩
  case unOp op t y =>
    have hy := ev_rel h y
    refine lift _ ?_
    split at hv
    · rename_i b hb
      injection hv with hv; subst hv
      rw [hb] at hy
      generalize a.eval y = yv at hy
      cases hy
      exact ⟨.bool _, by simp [Op.unary], .bool _⟩
    · rename_i k n hb
      injection hv with hv; subst hv
      rw [hb] at hy
      generalize a.eval y = yv at hy
      cases hy
      exact ⟨.int _ _, by simp [Op.unary, Op.intArith], .int _ _⟩
    · cases hv
  case convert s d y =>
    have hy := ev_rel h y
    refine lift _ ?_
    split at hv
    · rename_i k n si k' hb hs hd
      injection hv with hv; subst hv
      rw [hb] at hy
      generalize a.eval y = yv at hy
      cases hy
      obtain ⟨di, hdi, hk, hf⟩ := kind_some hT hd
      have hu := under_int hf hk
      obtain ⟨d1, inf, z, q1, _⟩ := fits_info (hT _ _ hs)
      exact ⟨.int _ _, by simp [convert, run_underlying q1, run_underlying hu, Conv.intToInt], .int _ _⟩
    · cases hv
  case nilCheck y =>
    have hy := ev_rel h y
    split at hv
    · rename_i m i j hb
      injection hv with hv; subst hv
      rw [hb] at hy
      generalize hq : a.eval y = yv at hy
      have hy2 := hy
      cases hy
      exact ⟨.pointer (some _), by simp [hq], hy2⟩
    · rename_i sz es i j hb
      injection hv with hv; subst hv
      rw [hb] at hy
      generalize hq : a.eval y = yv at hy
      have hy2 := hy
      cases hy
      exact ⟨.pointer (some _), by simp [hq], hy2⟩
    · cases hv
  case extract y i =>
    have hy := ev_rel h y
    refine lift _ ?_
    split at hv
    · rename_i vs hb
      rw [hb] at hy
      generalize a.eval y = yv at hy ⊢
      cases hy with
      | tup hr =>
        obtain ⟨v, h1, h2⟩ := hr.none_at hv
        exact ⟨v, by simp [Instr.extract, h1], h2⟩
    · cases hv
  case fieldAddr s y f =>
    have hy := ev_rel h y
    refine lift _ ?_
    split at hv
    · rename_i fl hk
      obtain ⟨i, hi, hk, hf⟩ := kind_some hT hk
      split at hv
      · rename_i p m r j hp hb
        injection hv with hv; subst hv
        rw [hb] at hy
        generalize a.eval y = yv at hy ⊢
        cases hy with
        | ptr hm =>
          refine ⟨_, field_run hf hk hp _ w, ?_⟩
          rw [add_mk]
          have := Rel.ptr (w := w) (S := Sof S0 fs) (i := r) (j := j + p.1) hm
          simpa [Nat.add_assoc] using this
      · rename_i p sz es r j hp hb
        injection hv with hv; subst hv
        rw [hb] at hy
        generalize a.eval y = yv at hy ⊢
        cases hy with
        | rp hu hr hc =>
          refine ⟨_, field_run hf hk hp _ w, ?_⟩
          rw [add_add, Nat.add_assoc]
          exact .rp hu hr hc
      · cases hv
    · cases hv
  case indexAddr t y ix =>
    have hy := ev_rel h y
    refine lift _ ?_
    split at hv
    · rename_i e hk
      obtain ⟨i, hi, hk, hf⟩ := kind_some hT hk
      split at hv
      · rename_i ie sz es k n he hb hn
        split at hv
        · rename_i hcond
          injection hv with hv; subst hv
          rw [hb] at hy
          have en := ev_int h hn
          obtain ⟨ad, cap, hv, hcap, hform⟩ := row_form hy
          obtain ⟨x, vs, rfl, hu, hr, hc⟩ := hform n.toNat (by omega)
          rw [hv, en]
          refine ⟨_, index_run hf hk (hT _ _ he) x _ _ _ n hcond.2.1 hcond.2.2 w, ?_⟩
          rw [← hcond.1]
          have := Rel.rp (w := w) (φ := φ) (i := n.toNat) (j := 0) hu hr hc
          simpa using this
        · cases hv
      · rename_i ie m b len k n he hb hn
        split at hv
        · rename_i hcond
          injection hv with hv; subst hv
          rw [hb] at hy
          have en := ev_int h hn
          obtain ⟨ad, c, hv, hcap, l, hm, had⟩ := sl_form hy
          obtain ⟨l', hm', hsz⟩ := bsz_loc h hcond.1
          have : l' = l := by rw [hm] at hm'; injection hm' with q; injection q with q; exact q.symm
          subst this
          rw [hv, en, had (by omega)]
          refine ⟨_, index_run hf hk (hT _ _ he) _ _ _ _ n hcond.2.1 hcond.2.2 w, ?_⟩
          rw [add_mk, ← hsz]
          have := Rel.ptr (w := w) (S := Sof S0 fs) (i := b + n.toNat) (j := 0) hm
          simpa [Nat.add_mul, Nat.add_assoc] using this
        · cases hv
      · cases hv
    · cases hv
  case slice t y lo hi mx =>
    refine lift _ ?_
    cases mx with
    | some _ => cases hv
    | none => exact slice_run hT h (ev_rel h y) hv
  case build t parts =>
    refine lift _ ?_
    split at hv
    · rename_i i hi
      split at hv
      · rename_i fl hk
        obtain ⟨cs, h1, rfl⟩ := Option.map_eq_some_iff.1 hv
        have hf := hT _ _ hi
        obtain ⟨d, inf, z, q1, q2, q3, q4, q5, q6, q7, q8⟩ := fits_info hf
        obtain ⟨vout, h2, h3⟩ := fillA_rel (a := a) (fun x => ev_rel h x) (simples_rel q7) h1
        refine ⟨.agg vout, ?_, ?_⟩
        · refine run_build w t _ vout (built_fit hf hk ?_)
          intro z' hz'
          have : z' = z := by rw [q2] at hz'; simp [q6] at hz'; exact hz'.symm
          subst this
          rw [← h2]
          congr 1
          simp
        · have := Rel.agg h3
          simpa using this
      · cases hv
    · cases hv
  case makeFunc fn first caps =>
    refine lift _ ?_
    split at hv
    · rename_i f
      split at hv
      · rename_i hz
        injection hv with hv; subst hv
        have hfirst : first = #[] := by simpa using hz
        subst hfirst
        refine ⟨.func (.func f) #[] (caps.map a.eval), by simp [Instr.makeFunc], ?_⟩
        have : RelL w (Sof S0 fs) φ (caps.toList.map (ev st.env)) (caps.toList.map a.eval) [] := by
          induction caps.toList with
          | nil => exact .nil
          | cons c l ih => exact .cons (f := []) (fs := []) (ev_rel h c) ih
        have e : caps.map a.eval = (caps.toList.map a.eval).toArray := by apply Array.ext'; simp
        show Rel _ _ _ _ (Value.func (.func f) #[] (caps.map a.eval)) _
        rw [e]
        exact Rel.fn this
      · cases hv
    · cases hv
  case load t p =>
    have hp := ev_rel h p
    refine lift _ ?_
    split at hv
    · rename_i i sz es r j hi hb
      rw [hb] at hp
      have hf := hT _ _ hi
      obtain ⟨cs, h1, h2⟩ := Option.bind_eq_some_iff.1 hv
      obtain ⟨ad, vs, e1, e2, e3, e4⟩ := rd_ro hp h1
      rw [e1]
      obtain ⟨v, q1, q2⟩ := aload_run hf h2 e3 e2 e4
      exact ⟨v, by simpa [Instr.loadAt, Instr.sureAddr] using q1, q2⟩
    · rename_i i m r j hi hb
      rw [hb] at hp
      have hf := hT _ _ hi
      split at hv
      · rename_i cs h1
        split at hv
        · rename_i ho
          obtain ⟨ad, vs, e1, e2, e3, e4⟩ := rd_ptr h hp h1 ho
          rw [e1]
          obtain ⟨v, q1, q2⟩ := aload_run hf hv e3 e2 e4
          exact ⟨v, by simpa [Instr.loadAt, Instr.sureAddr] using q1, q2⟩
        · cases hv
      · cases hv
    · cases hv
  case call c =>
    obtain ⟨callee, args, argTypes⟩ := c
    simp only at hv
    cases callee with
    | value f => cases hv
    | invoke r m => cases hv
    | builtin b =>
      simp only at hv
      split at hv
      · rename_i y t h1 h2
        obtain rfl : args = #[y] := by apply Array.ext'; simpa using h1
        obtain rfl : argTypes = #[t] := by apply Array.ext'; simpa using h2
        have hy := ev_rel h y
        simp only [resolve, invoke, builtin, Sem.run_bind, Sem.run_pure, Result.andThen_ok, List.map_toArray, List.map_cons, List.map_nil]
        generalize hq : a.eval y = yv at hy
        split at hv
        · cases hv
        · rename_i e hk hns
          obtain ⟨i, hi, hk, hf⟩ := kind_some hT hk
          have hu := under_slice hf hk
          have hl : ∀ (ad : Option Addr) (n c : Nat), (Builtin.len_ #[t] o.type #[.slice ad n c]).run P w = .ok (.int .i64 n) w := fun ad n c => by
            have := run_len_slice (P := P) w t o.type ad n c (by rw [elem_of hu]; exact hu)
            simpa [goInt] using this
          cases hb : ev st.env y <;> rw [hb] at hv hy <;> simp only [alen, Option.some.injEq, reduceCtorEq] at hv
          · exact (hns _ hb).elim
          · subst hv; cases hy; exact ⟨.int _ _, by simp [hl], .int _ _⟩
          · rename_i own sz es
            subst hv
            generalize hfp : ([] : List Nat) = fp at hy
            cases hy with
            | ro hu hr hc hl' => exact ⟨.int _ _, by simp [hl], .int _ _⟩
            | ro0 => exact ⟨.int _ _, by simp [hl], .int _ _⟩
            | own => cases hfp
            | own0 => exact ⟨.int _ _, by simp [hl], .int _ _⟩
          · subst hv; cases hy; exact ⟨.int _ _, by simp [hl], .int _ _⟩
        · rename_i s hk hb
          obtain ⟨i, hi, hk, hf⟩ := kind_some hT hk
          injection hv with hv; subst hv
          rw [hb] at hy
          cases hy
          have hu := under_str hf hk
          exact ⟨.int _ _, by simp [Builtin.len_, run_underlying hu, goInt], .int _ _⟩
        · cases hv
      · rename_i y z h1
        obtain rfl : args = #[y, z] := by apply Array.ext'; simpa using h1
        have hy := ev_rel h y
        have hz := ev_rel h z
        simp only [resolve, invoke, builtin, Sem.run_bind, Sem.run_pure, Result.andThen_ok, List.map_toArray, List.map_cons, List.map_nil]
        generalize a.eval y = yv at hy
        generalize a.eval z = zv at hz
        split at hv
        · rename_i k p k' q e1 e2
          injection hv with hv; subst hv
          rw [e1] at hy; rw [e2] at hz
          cases hy; cases hz
          exact ⟨.int _ _, by simp [Builtin.min_, Builtin.min2], .int _ _⟩
        · cases hv
      · rename_i y z h1
        obtain rfl : args = #[y, z] := by apply Array.ext'; simpa using h1
        have hy := ev_rel h y
        have hz := ev_rel h z
        simp only [resolve, invoke, builtin, Sem.run_bind, Sem.run_pure, Result.andThen_ok, List.map_toArray, List.map_cons, List.map_nil]
        generalize a.eval y = yv at hy
        generalize a.eval z = zv at hz
        split at hv
        · rename_i k p k' q e1 e2
          injection hv with hv; subst hv
          rw [e1] at hy; rw [e2] at hz
          cases hy; cases hz
          exact ⟨.int _ _, by simp [Builtin.max_, Builtin.max2], .int _ _⟩
        · cases hv
      · cases hv
end
end Go.Proofs.Ytpdhoimpbiehkaa.Ab
