/- The row of FnExactJoinNetworks. -/
import Derived.Test.YtimgfinlbhodhaaRows
import Derived.Test.YtimgfinlbhodhaaFacts
import Derived.Test.YtimgfinlbhodhaaAbQ43
import Derived.Test.YtimgfinlbhodhaaAbRead3
import Derived.WalkKit
import Derived.ProofKit
import Derived.OpenShut
import Derived.ShutString
import Derived.Below
namespace Go.Proofs.Ytimgfinlbhodhaa.fnExactJoinNetworks
open Go.ChangeShapes Go.WideShapes Go.ChangeAt Go.RowKit Go.Proofs.Ytimgfinlbhodhaa.Ab
set_option linter.unusedVariables false
theorem own : ownKnob Try.prog.godebug = none := by kernel_rfl
theorem laidOut : laidOutB Try.prog = true := by kernel_rfl
theorem flat68 : flat Try.prog 6 68 = some [.row 3 40 [.int .i64, .int .i64, .row 4 32 [.int .i64, .int .i64, .int .i64, .int .i64]], .row 5 56 [.int .i64, .int .i64, .int .i64, .int .i64, .row 1 8 [.int .i64]]] := by kernel_rfl
set_option maxHeartbeats 8000000 in
set_option maxRecDepth 100000 in
theorem lifted (os : Os) (started : os.Started) (H : Type) (enc : TypeId × Value → H) :
  ReturnsInHanded {} Try.checked os 6 .any (Rows.fnExactJoinNetworksSpec.pre6 enc Try.prog Try.f6 Rows.fnExactJoinNetworksRow.domain false) (Rows.fnExactJoinNetworksSpec.post enc Try.prog Try.f6 false true false false) := by
 refine returnsInHanded_of_change_sized (C := Try.checked) own started (by kernel_rfl) Try.func6
  (ChangeSpec.witness6 (enc := enc) (C := Try.checked) false ⟨#[], #[.agg #[.slice none 0 0, .slice none 0 0], .agg #[.slice none 0 0, .slice none 0 0]], []⟩ 8 (by kernel_rfl) (by kernel_rfl) (by kernel_rfl) (by kernel_rfl)) ?_
 intro W base args ds gs before hval0 hW hcnd hsz0 _
 have hsz : (DataW.weightsEach Try.prog (Try.f6.params.toList ++ Rows.fnExactJoinNetworksSpec.plain.varTypes Try.prog) (ds ++ gs)).all (· ≤ reachBytes) = true := hsz0
 have hval : ∀ (j : Nat) t v, Try.f6.params[j]? = some t → args[j]? = some v → Value.okWide Try.prog W .any base t v := hval0
 have hW' := hW
 obtain ⟨p, q, hA0, hV, rfl, hfz, hnd⟩ := hW
 have hA : DataW.TrodAll enc Try.prog W 0 (fun _ => true) true Try.f6.params.toList args.toList ds p := hA0
 rw [Try.params6] at hA hval hsz
 obtain ⟨v0, vs0, d0, ds0, p0, q0, hargs, rfl, rfl, h0, r0⟩ := trodAll_cons hA
 obtain ⟨v1, vs1, d1, ds1, p1, q1, rfl, rfl, rfl, h1, r1⟩ := trodAll_cons r0
 obtain ⟨rfl, rfl, rfl⟩ := trodAll_nil r1
 obtain rfl : args = #[v0, v1] := by cases args; simp_all
 obtain ⟨rfl, rfl⟩ := trodVars_none hV
 have k0 := h0
 have lt0 : ∀ x ∈ p0, x.block < W.heap.size := by obtain ⟨m, hm⟩ := k0; exact DataW.trod_lt m _ _ _ hm
 have k1 := h1
 have lt1 : ∀ x ∈ p1, x.block < W.heap.size := by obtain ⟨m, hm⟩ := k1; exact DataW.trod_lt m _ _ _ hm
 have hwt := weights_each hsz
 obtain ⟨cs0, rfl, _⟩ := okWide_struct Try.underlying68 (hval 0 68 v0 rfl rfl)
 obtain ⟨cs1, rfl, _⟩ := okWide_struct Try.underlying68 (hval 1 68 v1 rfl rfl)
 obtain ⟨fuel0, hf0⟩ := h0
 obtain ⟨as0, r0, t0⟩ := trod_rel 6 68 _ flat68 fuel0 _ _ hf0 (hwt 0 68 d0 rfl rfl)
 obtain ⟨ps0, ks0, rfl, hp0, hk0, hpl0, hkl0⟩ := typed_net t0
 obtain ⟨fuel1, hf1⟩ := h1
 obtain ⟨as1, r1, t1⟩ := trod_rel 6 68 _ flat68 fuel1 _ _ hf1 (hwt 1 68 d1 rfl rfl)
 obtain ⟨ps1, ks1, rfl, hp1, hk1, hpl1, hkl1⟩ := typed_net t1
 clear hA0 hval0 hsz0 hsz
 have hcall := lawJoinNetworks_ac ps0 ks0 ps1 ks1 hp0 hk0 hpl0 hkl0 hp1 hk1 hpl1 hkl1 W (fun _ => False) [.agg cs0, .agg cs1] (fun _ h => h.elim) (.cons (f := []) (fs := []) (.agg r0) (.cons (f := []) (fs := []) (.agg r1) .nil))
 refine hcall.mono fun e W' ⟨v, fb, he, hv, _, _, hfr⟩ => ?_
 subst he
 have bel : Below W.heap.size W W' := ⟨hfr.os, hfr.tape, hfr.output, hfr.size, fun k hk => hfr.block k hk (fun h => h)⟩
 generalize hfb : fb = f0 at hv
 cases hv
 exact ⟨_, rfl, _, _, _, [], _, [], hW', trodAll_mk1 (shut_bool Try.underlying4 _), (trodAll_cons_mk (Below.trod laidOut (by kernel_rfl) (of_decide_eq_true (by kernel_rfl)) k0 bel lt0) (trodAll_cons_mk (Below.trod laidOut (by kernel_rfl) (of_decide_eq_true (by kernel_rfl)) k1 bel lt1) trodAll_mk0)), rfl, bel.frame _, fun h => by cases h⟩
set_option maxHeartbeats 8000000 in
theorem facts : joinedFacts Try.checked.prog 6 Try.f6 Rows.fnExactJoinNetworksSpec Rows.fnExactJoinNetworksRow = true := by
 unfold joinedFacts
 repeat' (with_reducible apply Facts.and_mk)
 all_goals (first | (with_reducible exact Facts.laidOut) | (with_reducible exact Facts.mayEnter) | (rw [Facts.liftsFinal]; rfl) | (rw [Facts.make]; rfl) | (as_aux_lemma => kernel_rfl))
set_option maxHeartbeats 8000000 in
theorem over : Rows.fnExactJoinNetworksRow.holds Try.pinned (OpenSpec.ofChange Rows.fnExactJoinNetworksSpec) :=
 OpenClaim.holds_of_wide 6 Try.f6 rfl rfl rfl rfl rfl rfl rfl ⟨rfl, rfl, rfl, rfl, rfl⟩ rfl rfl rfl rfl rfl (by kernel_rfl) Try.func6 facts
  (of_decide_eq_true (by kernel_rfl)) (by unfold Func.isWrapper; first | (rw [if_pos (by decide +kernel)]; kernel_rfl) | (rw [if_neg (by decide +kernel)]; exact ⟨rfl, rfl⟩))
  (fun os started H enc _ => lifted os started H enc)
theorem proved : Rows.FnExactJoinNetworksSaid := over
#print axioms proved
end Go.Proofs.Ytimgfinlbhodhaa.fnExactJoinNetworks
namespace Go.Proofs.Ytimgfinlbhodhaa
theorem fnExactJoinNetworks_holds : Rows.FnExactJoinNetworksSaid := fnExactJoinNetworks.proved
end Go.Proofs.Ytimgfinlbhodhaa
