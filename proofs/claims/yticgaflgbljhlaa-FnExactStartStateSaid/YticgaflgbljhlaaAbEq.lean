/- Walks of functions of the program: what each answers, for all arguments that meet its conditions. -/
import Derived.Test.YticgaflgbljhlaaAbAuto
import Derived.Laws.StructEq
namespace Go.Proofs.Yticgaflgbljhlaa.Ab
open Go
set_option linter.unusedVariables false
set_option linter.unusedSimpArgs false
theorem four {w : World} {S : Nat → Prop} {φ : List (Option Loc)} {v : Value} {a b c d : Int} (h : Rel w S φ (.agg [.int .i64 a, .int .i64 b, .int .i64 c, .int .i64 d]) v []) : v = .agg #[.int .i64 a, .int .i64 b, .int .i64 c, .int .i64 d] := by
  generalize hf : ([] : List Nat) = f at h
  cases h with
  | agg h =>
    cases h with | cons h1 h => cases h1; cases h with | cons h2 h => cases h2; cases h with | cons h3 h => cases h3; cases h with | cons h4 h => cases h4; cases h; rfl
theorem uI : Try.prog.underlying 134 = some (.struct (Try.prog.fieldsOf 134)) := by kernel_rfl
theorem sI : Try.prog.stoodInHeld 134 = false := by kernel_rfl
theorem gI : Try.prog.eqGuardType Try.prog.depth 134 = false := by kernel_rfl
theorem lI : ((Try.prog.fieldsOf 134).toList.map fun f => (f.name == "_", f.type, f.offset)) = [(false, 3, 0), (false, 3, 1), (false, 3, 2), (false, 3, 3)] := by kernel_rfl
theorem iInt : Try.prog.underlying 3 = some (.int .i64) := by kernel_rfl
theorem partI {xs : Array Value} {i : Nat} {v : Value} (h : xs[i]? = some v) (w : World) : (part 3 xs i).run Try.prog w = .ok v w := by
  unfold part
  simp only [Sem.run_bind, run_isAgg_fit (tab_ok 3 _ tab_3) w, Result.andThen_ok, TK.agg, Bool.false_eq_true, if_false, h, Sem.run_pure]
theorem eqF_cons {d : Nat} {xs ys : Array Value} {f : Field} {fs : List Field} {a b : Int} {s : Bool} {w : World} (hn : (f.name == "_") = false) (ht : f.type = 3) (ha : xs[f.offset]? = some (.int .i64 a)) (hb : ys[f.offset]? = some (.int .i64 b))
    (hr : (Op.eqFields (d + 1) xs ys fs).run Try.prog w = .ok s w) : (Op.eqFields (d + 1) xs ys (f :: fs)).run Try.prog w = .ok ((a == b) && s) w := by
  have hn' : f.name ≠ "_" := by simpa using hn
  rw [Op.eqFields]
  simp only [if_pos hn', Sem.run_bind, ht, partI ha w, partI hb w, Result.andThen_ok, run_equalIn_int w d 3 .i64 .i64 a b iInt]
  cases a == b
  · simp
  · simpa using hr
theorem eqF_nil {d : Nat} {xs ys : Array Value} {w : World} : (Op.eqFields d xs ys []).run Try.prog w = .ok true w := by simp [Op.eqFields]
theorem eqI {S0 : Nat → Prop} {st : St} {a : Act} {w : World} {φ : List (Option Loc)} {fs : List Nat} (h : SRel S0 st a w φ fs) {o : Oper} {p q : Nat} {a1 b1 c1 d1 a2 b2 c2 d2 : Int} (ho : o.op = .binOp .eql 134 (.tmp p) (.tmp q) 134)
    (hp : look st.env p = .agg [.int .i64 a1, .int .i64 b1, .int .i64 c1, .int .i64 d1]) (hq : look st.env q = .agg [.int .i64 a2, .int .i64 b2, .int .i64 c2, .int .i64 d2]) :
    ∃ v, (execOp a.eval o).run Try.prog w = .ok (.value v) w ∧ Rel w (Sof S0 fs) φ (.bool ((a1 == a2) && ((b1 == b2) && ((c1 == c2) && ((d1 == d2) && true))))) v [] := by
  have h1 := h.env p
  have h2 := h.env q
  rw [hp] at h1
  rw [hq] at h2
  have e1 := four h1
  have e2 := four h2
  refine ⟨.bool _, ?_, .bool _⟩
  have ev1 : a.eval (.tmp p) = .agg #[.int .i64 a1, .int .i64 b1, .int .i64 c1, .int .i64 d1] := e1
  have ev2 : a.eval (.tmp q) = .agg #[.int .i64 a2, .int .i64 b2, .int .i64 c2, .int .i64 d2] := e2
  unfold execOp
  rw [ho]
  simp only [ev1, ev2, Sem.run_bind, run_eqGuard_agg w _ _ _ _ _ _ gI, Result.andThen_ok, run_eql_struct]
  rw [run_equalIn_struct w 9999 134 _ _ uI sI]
  have hl := lI
  generalize (Try.prog.fieldsOf 134).toList = l at hl
  rcases l with _ | ⟨f0, _ | ⟨f1, _ | ⟨f2, _ | ⟨f3, _ | ⟨f4, l⟩⟩⟩⟩⟩ <;> simp at hl
  obtain ⟨⟨n0, t0, o0⟩, ⟨n1, t1, o1⟩, ⟨n2, t2, o2⟩, ⟨n3, t3, o3⟩⟩ := hl
  rw [eqF_cons (by simpa using n0) t0 (by rw [o0]; rfl) (by rw [o0]; rfl) (eqF_cons (by simpa using n1) t1 (by rw [o1]; rfl) (by rw [o1]; rfl) (eqF_cons (by simpa using n2) t2 (by rw [o2]; rfl) (by rw [o2]; rfl) (eqF_cons (by simpa using n3) t3 (by rw [o3]; rfl) (by rw [o3]; rfl) eqF_nil)))]
  simp
end Go.Proofs.Yticgaflgbljhlaa.Ab
