/- The row of FnExactStepNetwork. -/
import Derived.Test.YtdcjlemkegifjaaGreatRows
import Derived.Test.YtdcjlemkegifjaaGreatFacts
import Derived.Test.YtdcjlemkegifjaaGreatAbSN5
import Derived.Test.YtdcjlemkegifjaaGreatAbRead4
import Derived.WalkKit
import Derived.ProofKit
import Derived.OpenShut
import Derived.ShutString
import Derived.Below
namespace Go.Proofs.YtdcjlemkegifjaaGreat.fnExactStepNetwork
open Go.ChangeShapes Go.WideShapes Go.ChangeAt Go.RowKit Go.Proofs.YtdcjlemkegifjaaGreat.Ab
set_option linter.unusedVariables false
theorem own : ownKnob Tryz.prog.godebug = none := by kernel_rfl
theorem laidOut : laidOutB Tryz.prog = true := by kernel_rfl
theorem flat3 : flat Tryz.prog 6 3 = some [.int .i64] := by kernel_rfl
theorem flat25 : flat Tryz.prog 6 25 = some [.row 3 40 [.int .i64, .int .i64, .row 4 32 [.int .i64, .int .i64, .int .i64, .int .i64]], .row 5 56 [.int .i64, .int .i64, .int .i64, .int .i64, .row 1 8 [.int .i64]]] := by kernel_rfl
theorem flat29 : flat Tryz.prog 6 29 = some [.row 2 32 [.int .i64, .row 1 8 [.int .i64]], .row 1 24 [.row 1 8 [.int .i64]], .row 1 24 [.row 1 8 [.int .i64]], .int .i64] := by kernel_rfl
set_option maxHeartbeats 8000000 in
set_option maxRecDepth 100000 in
theorem lifted (os : Os) (started : os.Started) (H : Type) (enc : TypeId × Value → H) :
  ReturnsInHanded {} Tryz.checked os 3 .any (Rows.fnExactStepNetworkSpec.pre6 enc Tryz.prog Tryz.f3 Rows.fnExactStepNetworkRow.domain false) (Rows.fnExactStepNetworkSpec.post enc Tryz.prog Tryz.f3 false true false false) := by
 refine returnsInHanded_of_change_sized (C := Tryz.checked) own started (by kernel_rfl) Tryz.func3
  (ChangeSpec.witness6 (enc := enc) (C := Tryz.checked) false ⟨#[], #[.agg #[.slice none 0 0, .slice none 0 0], .agg #[.slice none 0 0, .slice none 0 0, .slice none 0 0, .int .i64 0], .int .i64 0], []⟩ 8 (by kernel_rfl) (by kernel_rfl) (by kernel_rfl) (by kernel_rfl)) ?_
 intro W base args ds gs before hval0 hW hcnd hsz0 _
 have hsz : (DataW.weightsEach Tryz.prog (Tryz.f3.params.toList ++ Rows.fnExactStepNetworkSpec.plain.varTypes Tryz.prog) (ds ++ gs)).all (· ≤ reachBytes) = true := hsz0
 have hval : ∀ (j : Nat) t v, Tryz.f3.params[j]? = some t → args[j]? = some v → Value.okWide Tryz.prog W .any base t v := hval0
 have hW' := hW
 obtain ⟨p, q, hA0, hV, rfl, hfz, hnd⟩ := hW
 have hA : DataW.TrodAll enc Tryz.prog W 0 (fun _ => true) true Tryz.f3.params.toList args.toList ds p := hA0
 rw [Tryz.params3] at hA hval hsz
 obtain ⟨v0, vs0, d0, ds0, p0, q0, hargs, rfl, rfl, h0, r0⟩ := trodAll_cons hA
 obtain ⟨v1, vs1, d1, ds1, p1, q1, rfl, rfl, rfl, h1, r1⟩ := trodAll_cons r0
 obtain ⟨v2, vs2, d2, ds2, p2, q2, rfl, rfl, rfl, h2, r2⟩ := trodAll_cons r1
 obtain ⟨rfl, rfl, rfl⟩ := trodAll_nil r2
 obtain rfl : args = #[v0, v1, v2] := by cases args; simp_all
 obtain ⟨rfl, rfl⟩ := trodVars_none hV
 have k0 := h0
 have lt0 : ∀ x ∈ p0, x.block < W.heap.size := by obtain ⟨m, hm⟩ := k0; exact DataW.trod_lt m _ _ _ hm
 have k1 := h1
 have lt1 : ∀ x ∈ p1, x.block < W.heap.size := by obtain ⟨m, hm⟩ := k1; exact DataW.trod_lt m _ _ _ hm
 have k2 := h2
 have lt2 : ∀ x ∈ p2, x.block < W.heap.size := by obtain ⟨m, hm⟩ := k2; exact DataW.trod_lt m _ _ _ hm
 have hwt := weights_each hsz
 obtain ⟨cs0, rfl, _⟩ := okWide_struct Tryz.underlying25 (hval 0 25 v0 rfl rfl)
 obtain ⟨cs1, rfl, _⟩ := okWide_struct Tryz.underlying29 (hval 1 29 v1 rfl rfl)
 obtain ⟨a2, rfl⟩ := okWide_int Tryz.underlying3 (hval 2 3 v2 rfl rfl)
 obtain ⟨fuel0, hf0⟩ := h0
 obtain ⟨as0, r0, t0⟩ := trod_rel 6 25 _ flat25 fuel0 _ _ hf0 (hwt 0 25 d0 rfl rfl)
 obtain ⟨ps0, ks0, rfl, hp0, hk0, hpl0, hkl0⟩ := typed_net t0
 obtain ⟨fuel1, hf1⟩ := h1
 obtain ⟨as1, r1, t1⟩ := trod_rel 6 29 _ flat29 fuel1 _ _ hf1 (hwt 1 29 d1 rfl rfl)
 obtain ⟨ac1, qs1, hs1, tt1, rfl, ha1, hal1, hql1, hqw1, hhl1, hhw1⟩ := typed_state t1
 obtain ⟨fuel2, hf2⟩ := h2
 obtain ⟨as2, r2, t2⟩ := trod_rel 6 3 _ flat3 fuel2 _ _ hf2 (hwt 2 3 d2 rfl rfl)
 obtain ⟨n2, rfl, hn2⟩ := typed_int t2
 clear hA0 hval0 hsz0 hsz
 have hcall := lawStepNetwork_ac ps0 ks0 ac1 qs1 hs1 tt1 n2 hp0 hk0 hpl0 hkl0 ha1 hal1 hql1 hqw1 hhl1 hhw1 W (fun _ => False) [.agg cs0, .agg cs1, .int .i64 a2] (fun _ h => h.elim) (.cons (f := []) (fs := []) (.agg r0) (.cons (f := []) (fs := []) (.agg r1) (.cons (f := []) (fs := []) (one_rel r2) .nil)))
 refine hcall.mono fun e W' ⟨v, fb, he, hv, _, _, hfr⟩ => ?_
 subst he
 have bel : Below W.heap.size W W' := ⟨hfr.os, hfr.tape, hfr.output, hfr.size, fun k hk => hfr.block k hk (fun h => h)⟩
 generalize hfb : fb = f0 at hv
 cases hv
 exact ⟨_, rfl, _, _, _, [], _, [], hW', trodAll_mk1 (shut_bool Tryz.underlying4 _), (trodAll_cons_mk (Below.trod laidOut (by kernel_rfl) (of_decide_eq_true (by kernel_rfl)) k0 bel lt0) (trodAll_cons_mk (Below.trod laidOut (by kernel_rfl) (of_decide_eq_true (by kernel_rfl)) k1 bel lt1) (trodAll_cons_mk (Below.trod laidOut (by kernel_rfl) (of_decide_eq_true (by kernel_rfl)) k2 bel lt2) trodAll_mk0))), rfl, bel.frame _, fun h => by cases h⟩
set_option maxHeartbeats 8000000 in
theorem facts : joinedFacts Tryz.checked.prog 3 Tryz.f3 Rows.fnExactStepNetworkSpec Rows.fnExactStepNetworkRow = true := by
 unfold joinedFacts
 repeat' (with_reducible apply Facts.and_mk)
 all_goals (first | (with_reducible exact Facts.laidOut) | (with_reducible exact Facts.mayEnter) | (rw [Facts.liftsFinal]; rfl) | (rw [Facts.make]; rfl) | (as_aux_lemma => kernel_rfl))
set_option maxHeartbeats 8000000 in
theorem over : Rows.fnExactStepNetworkRow.holds Tryz.pinned (OpenSpec.ofChange Rows.fnExactStepNetworkSpec) :=
 OpenClaim.holds_of_wide 3 Tryz.f3 rfl rfl rfl rfl rfl rfl rfl ⟨rfl, rfl, rfl, rfl, rfl⟩ rfl rfl rfl rfl rfl (by kernel_rfl) Tryz.func3 facts
  (of_decide_eq_true (by kernel_rfl)) (by unfold Func.isWrapper; first | (rw [if_pos (by decide +kernel)]; kernel_rfl) | (rw [if_neg (by decide +kernel)]; exact ⟨rfl, rfl⟩))
  (fun os started H enc _ => lifted os started H enc)
theorem proved : Rows.FnExactStepNetworkSaid := over
#print axioms proved
end Go.Proofs.YtdcjlemkegifjaaGreat.fnExactStepNetwork
namespace Go.Proofs.YtdcjlemkegifjaaGreat
theorem fnExactStepNetwork_holds : Rows.FnExactStepNetworkSaid := fnExactStepNetwork.proved
end Go.Proofs.YtdcjlemkegifjaaGreat
