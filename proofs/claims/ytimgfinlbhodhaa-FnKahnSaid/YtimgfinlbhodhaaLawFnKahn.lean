/- The row of FnKahn. -/
import Derived.Test.YtimgfinlbhodhaaRows
import Derived.Test.YtimgfinlbhodhaaFacts
import Derived.Test.YtimgfinlbhodhaaAbKH1
import Derived.WalkKit
import Derived.ProofKit
import Derived.OpenShut
import Derived.ShutString
import Derived.Below
namespace Go.Proofs.Ytimgfinlbhodhaa.fnKahn
open Go.ChangeShapes Go.WideShapes Go.ChangeAt Go.RowKit Go.Proofs.Ytimgfinlbhodhaa.Ab
set_option linter.unusedVariables false
theorem own : ownKnob Try.prog.godebug = none := by kernel_rfl
theorem laidOut : laidOutB Try.prog = true := by kernel_rfl
theorem flat22 : flat Try.prog 6 22 = some [.row 1 1 [.int .u8]] := by kernel_rfl
set_option maxHeartbeats 8000000 in
set_option maxRecDepth 100000 in
theorem lifted (os : Os) (started : os.Started) (H : Type) (enc : TypeId × Value → H) :
  ReturnsInHanded {} Try.checked os 4 .any (Rows.fnKahnSpec.pre6 enc Try.prog Try.f4 Rows.fnKahnRow.domain false) (Rows.fnKahnSpec.post enc Try.prog Try.f4 false true false false) := by
 refine returnsInHanded_of_change_sized (C := Try.checked) own started (by kernel_rfl) Try.func4
  (ChangeSpec.witness6 (enc := enc) (C := Try.checked) false ⟨#[], #[.slice none 0 0], []⟩ 8 (by kernel_rfl) (by kernel_rfl) (by kernel_rfl) (by kernel_rfl)) ?_
 intro W base args ds gs before hval0 hW hcnd hsz0 _
 have hsz : (DataW.weightsEach Try.prog (Try.f4.params.toList ++ Rows.fnKahnSpec.plain.varTypes Try.prog) (ds ++ gs)).all (· ≤ reachBytes) = true := hsz0
 have hval : ∀ (j : Nat) t v, Try.f4.params[j]? = some t → args[j]? = some v → Value.okWide Try.prog W .any base t v := hval0
 have hW' := hW
 obtain ⟨p, q, hA0, hV, rfl, hfz, hnd⟩ := hW
 have hA : DataW.TrodAll enc Try.prog W 0 (fun _ => true) true Try.f4.params.toList args.toList ds p := hA0
 rw [Try.params4] at hA hval hsz
 obtain ⟨v0, vs0, d0, ds0, p0, q0, hargs, rfl, rfl, h0, r0⟩ := trodAll_cons hA
 obtain ⟨rfl, rfl, rfl⟩ := trodAll_nil r0
 obtain rfl : args = #[v0] := by cases args; simp_all
 obtain ⟨rfl, rfl⟩ := trodVars_none hV
 have k0 := h0
 have lt0 : ∀ x ∈ p0, x.block < W.heap.size := by obtain ⟨m, hm⟩ := k0; exact DataW.trod_lt m _ _ _ hm
 have hwt := weights_each hsz
 obtain ⟨a0, b0, c0, rfl⟩ := okWide_slice Try.underlying22 (hval 0 22 v0 rfl rfl)
 obtain ⟨fuel0, hf0⟩ := h0
 obtain ⟨as0, r0, t0⟩ := trod_rel 6 22 _ flat22 fuel0 _ _ hf0 (hwt 0 22 d0 rfl rfl)
 obtain ⟨bs0, rfl, hb01, hb02⟩ := typed_byterow t0
 clear hA0 hval0 hsz0 hsz
 have hcall := lawKahn_ac bs0 hb01 hb02 W (fun _ => False) [.slice a0 b0 c0] (fun _ h => h.elim) (.cons (f := []) (fs := []) (one_rel r0) .nil)
 refine hcall.mono fun e W' ⟨v, fb, he, hv, _, _, hfr⟩ => ?_
 subst he
 have bel : Below W.heap.size W W' := ⟨hfr.os, hfr.tape, hfr.output, hfr.size, fun k hk => hfr.block k hk (fun h => h)⟩
 generalize hfb : fb = f0 at hv
 cases hv
 exact ⟨_, rfl, _, _, _, [], _, [], hW', trodAll_mk1 (shut_bool Try.underlying4 _), (trodAll_cons_mk (Below.trod laidOut (by kernel_rfl) (of_decide_eq_true (by kernel_rfl)) k0 bel lt0) trodAll_mk0), rfl, bel.frame _, fun h => by cases h⟩
set_option maxHeartbeats 8000000 in
theorem facts : joinedFacts Try.checked.prog 4 Try.f4 Rows.fnKahnSpec Rows.fnKahnRow = true := by
 unfold joinedFacts
 repeat' (with_reducible apply Facts.and_mk)
 all_goals (first | (with_reducible exact Facts.laidOut) | (with_reducible exact Facts.mayEnter) | (rw [Facts.liftsFinal]; rfl) | (rw [Facts.make]; rfl) | (as_aux_lemma => kernel_rfl))
set_option maxHeartbeats 8000000 in
theorem over : Rows.fnKahnRow.holds Try.pinned (OpenSpec.ofChange Rows.fnKahnSpec) :=
 OpenClaim.holds_of_wide 4 Try.f4 rfl rfl rfl rfl rfl rfl rfl ⟨rfl, rfl, rfl, rfl, rfl⟩ rfl rfl rfl rfl rfl (by kernel_rfl) Try.func4 facts
  (of_decide_eq_true (by kernel_rfl)) (by unfold Func.isWrapper; first | (rw [if_pos (by decide +kernel)]; kernel_rfl) | (rw [if_neg (by decide +kernel)]; exact ⟨rfl, rfl⟩))
  (fun os started H enc _ => lifted os started H enc)
theorem proved : Rows.FnKahnSaid := over
#print axioms proved
end Go.Proofs.Ytimgfinlbhodhaa.fnKahn
namespace Go.Proofs.Ytimgfinlbhodhaa
theorem fnKahn_holds : Rows.FnKahnSaid := fnKahn.proved
end Go.Proofs.Ytimgfinlbhodhaa
