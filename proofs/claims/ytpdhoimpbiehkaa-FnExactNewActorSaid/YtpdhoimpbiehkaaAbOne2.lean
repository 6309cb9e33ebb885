/- One operation that leaves the memory alone: the machine does what the abstract values say, each operation. -/
import Derived.Test.YtpdhoimpbiehkaaAbOneRun
namespace Go.Proofs.Ytpdhoimpbiehkaa.Ab
open Go
set_option linter.unusedVariables false
set_option linter.unusedSimpArgs false

section
variable {P : Program} {T : Tab} {S0 : Nat → Prop} {st : St} {a : Act} {w : World} {φ : List (Option Loc)} {fs : List Nat}

theorem kind_some {t : Nat} {k : TK} (hT : T.ok P) (h : (T t).map TI.kind = some k) : ∃ i : TI, T t = some i ∧ i.kind = k ∧ i.fits P t = true := by
  obtain ⟨i, h1, h2⟩ := Option.map_eq_some_iff.1 h
  exact ⟨i, h1, h2, hT _ _ h1⟩
theorem elem_of {t e : Nat} (h : P.underlying t = some (.slice e)) : P.elem t = e := by simp [Program.elem, h]
theorem sl_form {S : Nat → Prop} {m b len : Nat} {v : Value} (h : Rel w S φ (.sl m b len) v []) : ∃ ad c, v = .slice ad len c ∧ len ≤ c ∧ ∃ l : Loc, φ[m]? = some (some l) ∧ (0 < c → ad = some ⟨l.g, l.off + b * l.sz, none⟩) := by
  cases h with
  | sl hm hlo hl ha => exact ⟨_, _, rfl, hl, _, hm, ha⟩

theorem ev_int (h : SRel S0 st a w φ fs) {o : Operand} {k : IntKind} {n : Int} (he : ev st.env o = .int k n) : a.eval o = .int k n := by
  have := ev_rel h o
  rw [he] at this
  generalize a.eval o = v at this
  cases this
  rfl
theorem bnd_run (h : SRel S0 st a w φ fs) {len cap l n : Nat} {lo hi : Option Operand} (hb : abnd len (lo.map (ev st.env)) (hi.map (ev st.env)) = some (l, n)) (hc : len ≤ cap) :
    l ≤ n ∧ n ≤ len ∧ (Instr.sliceBounds true len cap (lo.map a.eval) (hi.map a.eval) none).run P w = .ok (l, n, cap) w := by
  unfold abnd at hb
  obtain ⟨n0, hb0, hm⟩ := Option.bind_eq_some_iff.1 hb
  clear hb
  have hhi : n0 ≤ len ∧ ((hi = none ∧ n0 = len) ∨ ∃ oh k m, hi = some oh ∧ a.eval oh = .int k m ∧ 0 ≤ m ∧ m ≤ (len : Int) ∧ n0 = m.toNat) := by
    cases hi with
    | none => simp only [Option.map_none, bhi, Option.some.injEq] at hb0; exact ⟨by omega, .inl ⟨rfl, hb0.symm⟩⟩
    | some oh =>
      simp only [Option.map_some] at hb0
      cases hh : ev st.env oh <;> rw [hh] at hb0 <;> simp only [bhi, reduceCtorEq] at hb0
      split at hb0
      · injection hb0 with hb0
        rename_i k m hm'
        exact ⟨by omega, .inr ⟨oh, k, m, rfl, ev_int h hh, hm'.1, hm'.2, hb0.symm⟩⟩
      · cases hb0
  have hlo : l ≤ n0 ∧ n = n0 ∧ ((lo = none ∧ l = 0) ∨ ∃ ol k m, lo = some ol ∧ a.eval ol = .int k m ∧ 0 ≤ m ∧ m ≤ (n0 : Int) ∧ l = m.toNat) := by
    cases lo with
    | none => simp only [Option.map_none, blo, Option.some.injEq, Prod.mk.injEq] at hm; exact ⟨by omega, hm.2.symm, .inl ⟨rfl, hm.1.symm⟩⟩
    | some ol =>
      simp only [Option.map_some] at hm
      cases hh : ev st.env ol <;> rw [hh] at hm <;> simp only [blo, reduceCtorEq] at hm
      split at hm
      · injection hm with hm
        injection hm with e1 e2
        rename_i k m hm'
        exact ⟨by omega, e2.symm, .inr ⟨ol, k, m, rfl, ev_int h hh, hm'.1, hm'.2, e1.symm⟩⟩
      · cases hm
  obtain ⟨g1, g2⟩ := hhi
  obtain ⟨g3, rfl, g4⟩ := hlo
  refine ⟨g3, g1, ?_⟩
  unfold Instr.sliceBounds
  rcases g2 with ⟨rfl, rfl⟩ | ⟨oh, k, m, rfl, e1, e2, e3, rfl⟩ <;> rcases g4 with ⟨rfl, rfl⟩ | ⟨ol, k', m', rfl, e4, e5, e6, rfl⟩
  · simp
  · simp [e4, run_sliceBound, e5, e6]
  · simp [e1, run_sliceBound, e2, (by omega : m ≤ (cap : Int))]
  · have hk : ((m.toNat : Nat) : Int) = m := Int.toNat_of_nonneg e2
    rw [hk] at e6
    simp [e1, e4, run_sliceBound, e2, e5, (by omega : m ≤ (cap : Int)), hk, e6]
theorem slice_run (hT : T.ok P) (h : SRel S0 st a w φ fs) {t : Nat} {x : A} {v : Value} {lo hi : Option Operand} {z : A} (hx : Rel w (Sof S0 fs) φ x v [])
    (hz : aslice T st.heap t x (lo.map (ev st.env)) (hi.map (ev st.env)) = some z) :
    ∃ r, (Instr.sliceAt t v (lo.map a.eval) (hi.map a.eval) none).run P w = .ok r w ∧ Rel w (Sof S0 fs) φ z r [] := by
  unfold aslice at hz
  split at hz
  · rename_i e hk
    obtain ⟨it, h1, h2, hf⟩ := kind_some hT hk
    have hu := under_slice hf h2
    have hel := elem_of hu
    have hu' : P.underlying t = some (.slice (P.elem t)) := by rw [hel]; exact hu
    have run3 : ∀ (ad : Option Addr) (len cap l n : Nat) (i : TI), T e = some i → (Instr.sliceBounds true len cap (lo.map a.eval) (hi.map a.eval) none).run P w = .ok (l, n, cap) w →
        (Instr.sliceAt t (.slice ad len cap) (lo.map a.eval) (hi.map a.eval) none).run P w = .ok (.slice (if cap = l then ad else ad.map (·.add (l * i.size))) (n - l) (cap - l)) w := by
      intro ad len cap l n i hi' hb
      rw [run_sliceAt_slice (P := P) w t _ _ _ _ hu', run_slice_any (P := P) w t ad len cap hu', hb]
      simp only [Result.andThen]
      rw [hel, run_sizeOf_fit (hT _ _ hi') w]
      rfl
    split at hz
    · rename_i i sz es hi'
      split at hz
      · rename_i hs
        subst hs
        obtain ⟨⟨l, n⟩, hb, rfl⟩ := Option.map_eq_some_iff.1 hz
        obtain ⟨ad, cap, rfl, hcap, _⟩ := row_form hx
        obtain ⟨q1, q2, q3⟩ := bnd_run (P := P) h hb hcap
        exact ⟨_, run3 _ _ _ _ _ _ hi' q3, slice_row hx l n q1 q2⟩
      · cases hz
    · rename_i i m b len hi'
      split at hz
      · rename_i hs
        obtain ⟨⟨l, n⟩, hb, rfl⟩ := Option.map_eq_some_iff.1 hz
        obtain ⟨ad, c, rfl, hc, _⟩ := sl_form hx
        obtain ⟨l0, hm, hsz⟩ := bsz_loc h hs
        obtain ⟨q1, q2, q3⟩ := bnd_run (P := P) h hb hc
        refine ⟨_, run3 _ _ _ _ _ _ hi' q3, ?_⟩
        rw [← hsz]
        exact slice_sl hm hx l n q1 q2
      · cases hz
    · cases hz
  · cases hz
end
end Go.Proofs.Ytpdhoimpbiehkaa.Ab
