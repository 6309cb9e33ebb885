/- The row of FnExactFormatStream, which lists variables, and its tied card. -/
import Derived.Test.YtdcjlemkegifjaaDoorRows
import Derived.Test.YtdcjlemkegifjaaDoorTie
import Derived.Test.YtdcjlemkegifjaaDoorCards
import Derived.Test.YtdcjlemkegifjaaDoorFacts
import Derived.Test.YtdcjlemkegifjaaDoorAbF4
import Derived.WalkKit
import Derived.ProofKit
import Derived.OpenShut
import Derived.ShutString
import Derived.Below
import Derived.LaidMore
import Derived.Lay
import Derived.SevenTiedAt
import Derived.Stop.Joined
import Derived.Stop.LaidErr
import Derived.Lib.LaidTab
namespace Go.Proofs.YtdcjlemkegifjaaDoor.fnExactFormatStream
open Go Go.ChangeShapes Go.WideShapes Go.ChangeAt Go.RowKit Go.Proofs.YtdcjlemkegifjaaDoor.Ab
set_option linter.unusedVariables false
theorem own : ownKnob Tryd.prog.godebug = none := by kernel_rfl
theorem laidOut : laidOutB Tryd.prog = true := by kernel_rfl
theorem flat22 : flat Tryd.prog 6 22 = some [.row 1 8 [.int .i64]] := by kernel_rfl
theorem gT : Tryd.prog.globalNamed "internal/strconv.uint64pow10" = some 0 := by kernel_rfl
theorem cond_of_laid {W : World} (h : laidMetH Tryd.prog Rows.fnExactFormatStreamRow.laid W) : TabC W := by
 rw [MakeChecks.laidMetH_plain _ _ _ (by kernel_rfl)] at h
 exact Lib.tabIs_of_head (t := 79) (e := 59) (n := 20) gT (by kernel_rfl) Tryd.underlying79 Tryd.underlying59 (by kernel_rfl) (by kernel_rfl) (laidMet.tail (laidMet.tail h))
set_option maxHeartbeats 8000000 in
set_option maxRecDepth 100000 in
theorem lifted (os : Os) (started : os.Started) (H : Type) (enc : TypeId × Value → H) :
  ReturnsInHanded {} Tryd.checked os 3 .any (fun w args => (Rows.fnExactFormatStreamSpec.pre enc Tryd.prog Tryd.f3 Rows.fnExactFormatStreamRow.domain false w args ∧ laidMetH Tryd.prog Rows.fnExactFormatStreamRow.laid w) ∧ sizedMet enc Tryd.prog Tryd.f3 (OpenSpec.ofChange Rows.fnExactFormatStreamSpec) false w args) (Rows.fnExactFormatStreamSpec.post enc Tryd.prog Tryd.f3 false true false false) := by
 refine returnsInHanded_of_change_and (C := Tryd.checked) (X := fun w _ => laidMetH Tryd.prog Rows.fnExactFormatStreamRow.laid w) (fun _ _ _ hh h => h.of_heap hh) own started (by kernel_rfl) Tryd.func3
  (ChangeSpec.witness_shaped (enc := enc) (C := Tryd.checked) (os := os) (X := fun w _ => laidMetH Tryd.prog Rows.fnExactFormatStreamRow.laid w) false (World.laidAll Tryd.prog os Rows.fnExactFormatStreamRow.laid) #[.slice none 0 0] 8 (World.laidAll_os _ _ _)
   (World.shaped_of_ZipB (by kernel_rfl) (by kernel_rfl)) (by kernel_rfl) (by kernel_rfl) (by kernel_rfl)
   (by rw [MakeChecks.laidMetH_plain _ _ _ (by kernel_rfl)]; exact laidMet_laidAll _ (by kernel_rfl) (by kernel_rfl))) ?_
 intro W base args ds gs before hval0 hW hcnd hsz0 hL _
 have hsz : (DataW.weightsEach Tryd.prog (Tryd.f3.params.toList ++ Rows.fnExactFormatStreamSpec.plain.varTypes Tryd.prog) (ds ++ gs)).all (· ≤ reachBytes) = true := hsz0
 have hval : ∀ (j : Nat) t v, Tryd.f3.params[j]? = some t → args[j]? = some v → Value.okWide Tryd.prog W .any base t v := hval0
 have hW' := hW
 obtain ⟨p, q, hA0, hV, rfl, hfz, hnd⟩ := hW
 have hA : DataW.TrodAll enc Tryd.prog W 0 (fun _ => true) true Tryd.f3.params.toList args.toList ds p := hA0
 rw [Tryd.params3] at hA hval hsz
 obtain ⟨v0, vs0, d0, ds0, p0, q0, hargs, rfl, rfl, h0, r0⟩ := trodAll_cons hA
 obtain ⟨rfl, rfl, rfl⟩ := trodAll_nil r0
 obtain rfl : args = #[v0] := by cases args; simp_all
 obtain ⟨rfl, rfl⟩ := trodVars_none hV
 have k0 := h0
 have lt0 : ∀ x ∈ p0, x.block < W.heap.size := by obtain ⟨m, hm⟩ := k0; exact DataW.trod_lt m _ _ _ hm
 have hwt := weights_each hsz
 obtain ⟨a0, b0, c0, rfl⟩ := okWide_slice Tryd.underlying22 (hval 0 22 v0 rfl rfl)
 obtain ⟨fuel0, hf0⟩ := h0
 obtain ⟨as0, r0, t0⟩ := trod_rel 6 22 _ flat22 fuel0 _ _ hf0 (hwt 0 22 d0 rfl rfl)
 obtain ⟨rs0, rfl, hr0⟩ := typed_introw t0
 clear hA0 hval0 hsz0 hsz
 have hcall := lawFormat_aw rs0 hr0 W (fun _ => False) [.slice a0 b0 c0] (cond_of_laid hL) (fun _ h => h.elim) (.cons (f := []) (fs := []) (one_rel r0) .nil)
 refine hcall.mono fun e W' ⟨v, fb, he, hv, _, _, hfr⟩ => ?_
 subst he
 have bel : Below W.heap.size W W' := ⟨hfr.os, hfr.tape, hfr.output, hfr.size, fun k hk => hfr.block k hk (fun h => h)⟩
 generalize hfb : fb = f0 at hv
 cases hv
 exact ⟨_, rfl, _, _, _, [], _, [], hW', trodAll_mk1 (shut_bool Tryd.underlying4 _), (trodAll_cons_mk (Below.trod laidOut (by kernel_rfl) (of_decide_eq_true (by kernel_rfl)) k0 bel lt0) trodAll_mk0), rfl, bel.frame _, fun h => by cases h⟩
set_option maxHeartbeats 8000000 in
theorem facts : joinedFacts Tryd.checked.prog 3 Tryd.f3 Rows.fnExactFormatStreamSpec Rows.fnExactFormatStreamRow = true := by
 unfold joinedFacts
 repeat' (with_reducible apply Facts.and_mk)
 all_goals (first | (with_reducible exact Facts.laidOut) | (with_reducible exact Facts.mayEnter) | (rw [Facts.liftsFinal]; rfl) | (rw [Facts.make]; rfl) | (as_aux_lemma => kernel_rfl))
set_option maxHeartbeats 8000000 in
theorem over : Rows.fnExactFormatStreamRow.holds Tryd.pinned (OpenSpec.ofChange Rows.fnExactFormatStreamSpec) :=
 OpenClaim.holds_of_wide 3 Tryd.f3 rfl rfl rfl rfl rfl rfl rfl ⟨rfl, rfl, rfl, rfl, rfl⟩ rfl rfl rfl rfl rfl (by kernel_rfl) Tryd.func3 facts
  (of_decide_eq_true (by kernel_rfl)) (by unfold Func.isWrapper; first | (rw [if_pos (by decide +kernel)]; kernel_rfl) | (rw [if_neg (by decide +kernel)]; exact ⟨rfl, rfl⟩))
  (fun os started H enc _ => lifted os started H enc)
theorem proved : Rows.FnExactFormatStreamSaid := over
theorem carded : Rows.FnExactFormatStreamCardSaid :=
 Claim7.holds_tied_plain_at .later [] [.data, .data, .data] true (true, "ea4b0bd78822f998962d45a415c3c44deecb2228314e585732be371aaa790531") true proved (fun _ h => by cases h) (by kernel_rfl) (fun _ h => by cases h) fnExactFormatStream_row_tie rfl ⟨rfl, rfl⟩ (by kernel_rfl) rfl
  (fun f fn hf hfn => by
   obtain rfl : f = 3 := Option.some.inj ((show Tryd.prog.funcNamed "loop.example/g03224/laws.FnExactFormatStream" = some 3 by kernel_rfl).symm.trans hf) |>.symm
   obtain rfl : fn = Tryd.f3 := (Option.some.inj (Tryd.func3.symm.trans hfn)).symm
   exact ⟨by kernel_rfl, fun j t ht => by
    rw [Tryd.params3] at ht
    have hm : t ∈ [22] := by simpa using Array.mem_of_getElem? ht
    have hall : ([22].all fun u => !Tryd.prog.wantsStandIn u) = true := by kernel_rfl
    exact (show Tryd.prog.wantsStandIn t = false by simpa using List.all_eq_true.1 hall t hm)⟩)
  (by kernel_rfl)
#print axioms carded
end Go.Proofs.YtdcjlemkegifjaaDoor.fnExactFormatStream
namespace Go.Proofs.YtdcjlemkegifjaaDoor
theorem fnExactFormatStream_holds : Rows.FnExactFormatStreamCardSaid := fnExactFormatStream.carded
end Go.Proofs.YtdcjlemkegifjaaDoor
