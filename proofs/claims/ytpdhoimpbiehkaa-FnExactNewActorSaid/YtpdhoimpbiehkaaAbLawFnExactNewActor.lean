import Derived.Test.YtpdhoimpbiehkaaRows
import Derived.Test.YtpdhoimpbiehkaaFacts
import Derived.Test.YtpdhoimpbiehkaaAbP9
import Derived.Test.YtpdhoimpbiehkaaAbRead
import Derived.WalkKit
import Derived.ProofKit
import Derived.OpenShut
import Derived.ShutString
import Derived.ChangeOld
import Derived.Below
import Derived.SizedLaws
namespace Go.Proofs.Ytpdhoimpbiehkaa.fnExactNewActor
open Go.ChangeShapes Go.WideShapes Go.ChangeAt Go.RowKit Go.Proofs.Ytpdhoimpbiehkaa.Ab
set_option linter.unusedVariables false
theorem own : ownKnob Try.prog.godebug = none := by kernel_rfl
theorem laidOut : laidOutB Try.prog = true := by kernel_rfl
theorem flat43 : flat Try.prog 6 43 = some [.int .i64, .int .i64, .row 4 32 [.int .i64, .int .i64, .int .i64, .int .i64]] := by kernel_rfl
theorem typed_ins {es : List (List A)} (h : ∀ e ∈ es, TypedL reachBytes [.int .i64, .int .i64, .int .i64, .int .i64] e) : ∃ l : List I4, es = l.map insv := by
  induction es with
  | nil => exact ⟨[], rfl⟩
  | cons e es ih =>
    obtain ⟨l, rfl⟩ := ih (fun x hx => h x (by simp [hx]))
    have he := h e (by simp)
    simp only [TypedL, Typed] at he
    obtain ⟨_, _, rfl, ⟨a, rfl, _⟩, _, _, rfl, ⟨b, rfl, _⟩, _, _, rfl, ⟨c, rfl, _⟩, _, _, rfl, ⟨d, rfl, _⟩, rfl⟩ := he
    exact ⟨(a, b, c, d) :: l, rfl⟩
theorem typed_prog {xs : List A} (h : TypedL reachBytes [.int .i64, .int .i64, .row 4 32 [.int .i64, .int .i64, .int .i64, .int .i64]] xs) : ∃ (i o : Int) (l : List I4), xs = [.int .i64 i, .int .i64 o, .row false 4 (l.map insv)] ∧ l.length < 4398046511104 := by
  rw [TypedL] at h
  obtain ⟨_, _, rfl, h1, h⟩ := h
  rw [TypedL] at h
  obtain ⟨_, _, rfl, h2, h⟩ := h
  rw [TypedL] at h
  obtain ⟨_, _, rfl, h3, h⟩ := h
  rw [TypedL] at h
  subst h
  simp only [Typed] at h1 h2 h3
  obtain ⟨i, rfl, _⟩ := h1
  obtain ⟨o, rfl, _⟩ := h2
  obtain ⟨es, rfl, hb, he⟩ := h3
  obtain ⟨l, rfl⟩ := typed_ins he
  refine ⟨i, o, l, rfl, ?_⟩
  have : reachBytes = 140737488351232 := rfl
  simp only [List.length_map] at hb
  omega
set_option maxRecDepth 100000 in
theorem lifted (os : Os) (started : os.Started) (H : Type) (enc : TypeId × Value → H) :
    ReturnsInHanded {} Try.checked os 24 .any (Rows.fnExactNewActorSpec.pre6 enc Try.prog Try.f24 Rows.fnExactNewActorRow.domain false) (Rows.fnExactNewActorSpec.post enc Try.prog Try.f24 false true false false) := by
  refine returnsInHanded_of_change_sized (C := Try.checked) own started (by kernel_rfl) Try.func24
    (ChangeSpec.witness6 (enc := enc) (C := Try.checked) false ⟨#[], #[.agg #[.int .i64 0, .int .i64 0, .slice none 0 0]], []⟩ 8 (by kernel_rfl) (by kernel_rfl) (by kernel_rfl) (by kernel_rfl)) ?_
  intro W base args ds gs before hval0 hW hcnd hsz0 _
  have hsz : (DataW.weightsEach Try.prog (Try.f24.params.toList ++ Rows.fnExactNewActorSpec.plain.varTypes Try.prog) (ds ++ gs)).all (· ≤ reachBytes) = true := hsz0
  have hval : ∀ (j : Nat) t v, Try.f24.params[j]? = some t → args[j]? = some v → Value.okWide Try.prog W .any base t v := hval0
  have hW' := hW
  obtain ⟨p, q, hA0, hV, rfl, hfz, hnd⟩ := hW
  have hA : DataW.TrodAll enc Try.prog W 0 (fun _ => true) true Try.f24.params.toList args.toList ds p := hA0
  rw [Try.params24] at hA hval hsz
  obtain ⟨v0, vs0, d0, ds0, p0, q0, hargs, rfl, rfl, h0, r0⟩ := trodAll_cons hA
  obtain ⟨rfl, rfl, rfl⟩ := trodAll_nil r0
  obtain rfl : args = #[v0] := by cases args; simp_all
  obtain ⟨rfl, rfl⟩ := trodVars_none hV
  have k0 := h0
  have lt0 : ∀ x ∈ p0, x.block < W.heap.size := by obtain ⟨m, hm⟩ := k0; exact DataW.trod_lt m _ _ _ hm
  have hwt := weights_each hsz
  obtain ⟨cs0, rfl, _⟩ := okWide_struct Try.underlying43 (hval 0 43 v0 rfl rfl)
  obtain ⟨fuel, hf⟩ := h0
  obtain ⟨as0, r0, t0⟩ := trod_rel 6 43 _ flat43 fuel _ _ hf (hwt 0 43 d0 rfl rfl)
  obtain ⟨i, o, l, rfl, hl⟩ := typed_prog t0
  clear hA0 hval0 hsz0 hsz
  have hcall := lawNewActor_ac i o l hl W (fun _ => False) [.agg cs0] (fun _ h => h.elim) (.cons (f := []) (fs := []) (.agg r0) .nil)
  refine hcall.mono fun e W' ⟨v, fb, he, hv, _, _, hfr⟩ => ?_
  subst he
  have bel : Below W.heap.size W W' := ⟨hfr.os, hfr.tape, hfr.output, hfr.size, fun k hk => hfr.block k hk (fun h => h)⟩
  generalize hfb : fb = f0 at hv
  cases hv
  exact ⟨_, rfl, _, _, _, [], _, [], hW', trodAll_mk1 (shut_bool Try.underlying4 _), (trodAll_cons_mk (Below.trod laidOut (by kernel_rfl) (of_decide_eq_true (by kernel_rfl)) k0 bel lt0) trodAll_mk0), rfl, bel.frame _, fun h => by cases h⟩
theorem facts : joinedFacts Try.checked.prog 24 Try.f24 Rows.fnExactNewActorSpec Rows.fnExactNewActorRow = true := by
  unfold joinedFacts
  repeat' (with_reducible apply Facts.and_mk)
  all_goals (first | (with_reducible exact Facts.laidOut) | (with_reducible exact Facts.mayEnter) | (rw [Facts.liftsFinal]; rfl) | (rw [Facts.make]; rfl) | (as_aux_lemma => kernel_rfl))
theorem over : Rows.fnExactNewActorRow.holds Try.pinned (OpenSpec.ofChange Rows.fnExactNewActorSpec) :=
  OpenClaim.holds_of_wide 24 Try.f24 rfl rfl rfl rfl rfl rfl rfl ⟨rfl, rfl, rfl, rfl, rfl⟩ rfl rfl rfl rfl rfl (by kernel_rfl) Try.func24 facts
    (of_decide_eq_true (by kernel_rfl)) (by unfold Func.isWrapper; first | (rw [if_pos (by decide +kernel)]; kernel_rfl) | (rw [if_neg (by decide +kernel)]; exact ⟨rfl, rfl⟩))
    (fun os started H enc _ => lifted os started H enc)
theorem proved : Rows.FnExactNewActorSaid := over
#print axioms proved
end Go.Proofs.Ytpdhoimpbiehkaa.fnExactNewActor
namespace Go.Proofs.Ytpdhoimpbiehkaa
/-- The row, under a short name, for the claim. -/
theorem fnExactNewActor_holds : Rows.FnExactNewActorSaid := fnExactNewActor.proved
end Go.Proofs.Ytpdhoimpbiehkaa
