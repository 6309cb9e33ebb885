/- Prefixes meet and join as they should: the meet is below both, the join above both, and what follows a prefix follows it. Every argument: no condition. -/
import Derived.Test.YtpdhoimpbiehkaaCFnStreams1
import Derived.Laws.BitsLemmas
import Derived.Test.YtpdhoimpbiehkaaRows
import Derived.WalkKit
import Derived.ProofKit
import Derived.OpenShut
import Derived.ShutString
import Derived.ChangeOld
import Derived.Below
import Derived.SizedLaws
import Derived.Test.YtpdhoimpbiehkaaWSized

namespace Go.Proofs.Ytpdhoimpbiehkaa.Q
open Go.RowKit Go.Proofs.YtpdhoimpbiehkaaW.PrintWords Go.Proofs.YtpdhoimpbiehkaaW.PrintLast Go.Proofs.YtpdhoimpbiehkaaW.PrintMore
attribute [local go_sem] max2_int min2_int max_two min_two max_three min_three max_four min_four   -- for this text's walks alone
set_option linter.unusedVariables false
set_option linter.unusedSimpArgs false
set_option maxRecDepth 100000

/-! ### laws_FnStreams: function 20 -/
mutual
def laws_FnStreams.j0 : Nat → List Int → List Int → Option (Bool)
  | 0, _, _ => none
  | k + 1, x3, x4 => (impl_MeetStreams_c.f x3 x4).bind fun t125 => ((impl_JoinStreams.f x3 x4).bind fun bt128 => ((impl_AppendStream.f x3 x4).bind fun bt132 => ((impl_RestOf.f x3 bt132.1).bind fun bt136 => ((impl_IsPrefix_c.f t125 x3).bind fun t140 => (if t140 = true then ((impl_IsPrefix_c.f t125 x4).bind fun t141 => (if t141 = true then ((impl_MeetStreams_c.f x4 x3).bind fun t142 => ((laws_ints_c.f t125 t142).bind fun t145 => (if t145 = true then (if bt132.2 = true then (if bt136.2 = true then ((laws_ints_c.f bt136.1 x4).bind fun t146 => (laws_FnStreams.j1 k x3 x4 t125 bt128.1 bt128.2 (!t146))) else (laws_FnStreams.j1 k x3 x4 t125 bt128.1 bt128.2 true)) else (laws_FnStreams.j1 k x3 x4 t125 bt128.1 bt128.2 true)) else (laws_FnStreams.j1 k x3 x4 t125 bt128.1 bt128.2 true)))) else (laws_FnStreams.j1 k x3 x4 t125 bt128.1 bt128.2 true))) else (laws_FnStreams.j1 k x3 x4 t125 bt128.1 bt128.2 true))))))
def laws_FnStreams.j1 : Nat → List Int → List Int → List Int → List Int → Bool → Bool → Option (Bool)
  | 0, _, _, _, _, _, _ => none
  | k + 1, x3, x4, x5, x6, x7, x88 => if x88 = true then (some false) else ((impl_IsPrefix_c.f x3 x4).bind fun t147 => (if t147 = true then (if (x7 != true) = true then (laws_FnStreams.j2 k x3 x4 x6 x7 true) else (laws_FnStreams.j2 k x3 x4 x6 x7 (x7 != ((x5.length : Int) == (mn (x3.length : Int) (x4.length : Int)))))) else ((impl_IsPrefix_c.f x4 x3).bind fun t148 => (if (x7 != t148) = true then (laws_FnStreams.j2 k x3 x4 x6 x7 true) else (laws_FnStreams.j2 k x3 x4 x6 x7 (x7 != ((x5.length : Int) == (mn (x3.length : Int) (x4.length : Int)))))))))
def laws_FnStreams.j2 : Nat → List Int → List Int → List Int → Bool → Bool → Option (Bool)
  | 0, _, _, _, _, _ => none
  | k + 1, x3, x4, x6, x7, x110 => if x110 = true then (some false) else (if x7 = true then ((impl_IsPrefix_c.f x3 x6).bind fun t149 => (if t149 = true then ((impl_IsPrefix_c.f x4 x6).bind fun t150 => (if t150 = true then (some ((x6.length : Int) == (mx (x3.length : Int) (x4.length : Int)))) else (some false))) else (some false))) else (some true))
end
def laws_FnStreams.f (k : Nat) (l0 : List Int) : Option (Bool) := if (l0.length : Int) > 1048576 then (some true) else ((spec_MakeStream.f k l0 10).bind fun t101 => ((laws_fresh.f k l0 3).bind fun t104 => ((spec_MakeStream.f k t104 10).bind fun t107 => ((laws_at.f l0 1).bind fun t110 => (if (Int.tmod t110 2) = 0 then ((some (([] : List Int) : List Int)).bind fun y111 => ((laws_at.f l0 2).bind fun t114 => (if (wrap64 ((t101.length : Int) + 1)) = 0 then (none) else (if 0 ≤ (Int.tmod t114 (wrap64 ((t101.length : Int) + 1))) then (if (Int.tmod t114 (wrap64 ((t101.length : Int) + 1))) ≤ (t101.length : Int) then ((some (t101.take ((Int.tmod t114 (wrap64 ((t101.length : Int) + 1))) : Int).toNat : List Int)).bind fun y115 => (if y111.length + y115.length < 17592186044416 then ((some (y111 ++ y115 : List Int)).bind fun y119 => (if y119.length + t107.length < 17592186044416 then (laws_FnStreams.j0 k t101 (y119 ++ t107)) else (none))) else (none))) else (none)) else (none))))) else (laws_FnStreams.j0 k t101 t107))))))
theorem laws_FnStreams.mono_l : ∀ k, (∀ y0 y1, LeO (laws_FnStreams.j0 k y0 y1) (laws_FnStreams.j0 (k + 1) y0 y1)) ∧ (∀ y0 y1 y2 y3 y4 y5, LeO (laws_FnStreams.j1 k y0 y1 y2 y3 y4 y5) (laws_FnStreams.j1 (k + 1) y0 y1 y2 y3 y4 y5)) ∧ (∀ y0 y1 y2 y3 y4, LeO (laws_FnStreams.j2 k y0 y1 y2 y3 y4) (laws_FnStreams.j2 (k + 1) y0 y1 y2 y3 y4))
  | 0 => ⟨fun _ _ r h => by simp [laws_FnStreams.j0] at h, fun _ _ _ _ _ _ r h => by simp [laws_FnStreams.j1] at h, fun _ _ _ _ _ r h => by simp [laws_FnStreams.j2] at h⟩
  | k + 1 => by
    obtain ⟨ih0, ih1, ih2⟩ := laws_FnStreams.mono_l k
    refine ⟨?_, ?_, ?_⟩
    · intro y0 y1
      unfold laws_FnStreams.j0
      repeat' first
      | (with_reducible exact ih0 _ _)
      | (with_reducible exact ih1 _ _ _ _ _ _)
      | (with_reducible exact ih2 _ _ _ _ _)
      | (with_reducible exact laws_fresh.mono _ _ _)
      | (with_reducible exact spec_MakeStream.mono _ _ _)
      | (with_reducible exact LeO.refl _)
      | (with_reducible exact LeO.none _)
      | (with_reducible refine LeO.ite ?_ ?_)
      | (with_reducible refine LeO.bind ?_ (fun _ => ?_))
      | exact ih0 _ _
      | exact ih1 _ _ _ _ _ _
      | exact ih2 _ _ _ _ _
      | exact laws_fresh.mono _ _ _
      | exact spec_MakeStream.mono _ _ _
      | exact LeO.none _
      | refine LeO.ite ?_ ?_
      | refine LeO.bind ?_ (fun _ => ?_)
    · intro y0 y1 y2 y3 y4 y5
      unfold laws_FnStreams.j1
      repeat' first
      | (with_reducible exact ih0 _ _)
      | (with_reducible exact ih1 _ _ _ _ _ _)
      | (with_reducible exact ih2 _ _ _ _ _)
      | (with_reducible exact laws_fresh.mono _ _ _)
      | (with_reducible exact spec_MakeStream.mono _ _ _)
      | (with_reducible exact LeO.refl _)
      | (with_reducible exact LeO.none _)
      | (with_reducible refine LeO.ite ?_ ?_)
      | (with_reducible refine LeO.bind ?_ (fun _ => ?_))
      | exact ih0 _ _
      | exact ih1 _ _ _ _ _ _
      | exact ih2 _ _ _ _ _
      | exact laws_fresh.mono _ _ _
      | exact spec_MakeStream.mono _ _ _
      | exact LeO.none _
      | refine LeO.ite ?_ ?_
      | refine LeO.bind ?_ (fun _ => ?_)
    · intro y0 y1 y2 y3 y4
      unfold laws_FnStreams.j2
      repeat' first
      | (with_reducible exact ih0 _ _)
      | (with_reducible exact ih1 _ _ _ _ _ _)
      | (with_reducible exact ih2 _ _ _ _ _)
      | (with_reducible exact laws_fresh.mono _ _ _)
      | (with_reducible exact spec_MakeStream.mono _ _ _)
      | (with_reducible exact LeO.refl _)
      | (with_reducible exact LeO.none _)
      | (with_reducible refine LeO.ite ?_ ?_)
      | (with_reducible refine LeO.bind ?_ (fun _ => ?_))
      | exact ih0 _ _
      | exact ih1 _ _ _ _ _ _
      | exact ih2 _ _ _ _ _
      | exact laws_fresh.mono _ _ _
      | exact spec_MakeStream.mono _ _ _
      | exact LeO.none _
      | refine LeO.ite ?_ ?_
      | refine LeO.bind ?_ (fun _ => ?_)
theorem laws_FnStreams.mono : ∀ a0 k, LeO (laws_FnStreams.f k a0) (laws_FnStreams.f (k + 1) a0) := by
  intro a0 k
  obtain ⟨ih0, ih1, ih2⟩ := laws_FnStreams.mono_l k
  unfold laws_FnStreams.f
  repeat' first
      | (with_reducible exact ih0 _ _)
      | (with_reducible exact ih1 _ _ _ _ _ _)
      | (with_reducible exact ih2 _ _ _ _ _)
      | (with_reducible exact laws_fresh.mono _ _ _)
      | (with_reducible exact spec_MakeStream.mono _ _ _)
      | (with_reducible exact LeO.refl _)
      | (with_reducible exact LeO.none _)
      | (with_reducible refine LeO.ite ?_ ?_)
      | (with_reducible refine LeO.bind ?_ (fun _ => ?_))
      | exact ih0 _ _
      | exact ih1 _ _ _ _ _ _
      | exact ih2 _ _ _ _ _
      | exact laws_fresh.mono _ _ _
      | exact spec_MakeStream.mono _ _ _
      | exact LeO.none _
      | refine LeO.ite ?_ ?_
      | refine LeO.bind ?_ (fun _ => ?_)
set_option maxHeartbeats 8000000 in
set_option maxRecDepth 100000 in
theorem laws_FnStreams.calls (k : Nat) (A0 : Option Addr) (c0 : Nat) (l0 : List Int) (r : Bool) (w : World) (hr0 : Kd.C (Kd.int .u8) w A0 l0.length l0) (hc0 : l0.length ≤ c0) (h : laws_FnStreams.f k l0 = some r) :
    Calls Try.prog 20 #[.slice A0 l0.length c0] w fun e w' => e = .returned (.bool r) ∧ Below w.heap.size w w' := by
  have HR0 := Aside0.mk hr0
  have HC0 := Aside0.mk hc0
  clear hr0 hc0
  have HB := Aside0.mk (Below.refl w.heap.size w)
  have H : (if (l0.length : Int) > 1048576 then (some true) else ((spec_MakeStream.f k l0 10).bind fun t101 => ((laws_fresh.f k l0 3).bind fun t104 => ((spec_MakeStream.f k t104 10).bind fun t107 => ((laws_at.f l0 1).bind fun t110 => (if (Int.tmod t110 2) = 0 then ((some (([] : List Int) : List Int)).bind fun y111 => ((laws_at.f l0 2).bind fun t114 => (if (wrap64 ((t101.length : Int) + 1)) = 0 then (none) else (if 0 ≤ (Int.tmod t114 (wrap64 ((t101.length : Int) + 1))) then (if (Int.tmod t114 (wrap64 ((t101.length : Int) + 1))) ≤ (t101.length : Int) then ((some (t101.take ((Int.tmod t114 (wrap64 ((t101.length : Int) + 1))) : Int).toNat : List Int)).bind fun y115 => (if y111.length + y115.length < 17592186044416 then ((some (y111 ++ y115 : List Int)).bind fun y119 => (if y119.length + t107.length < 17592186044416 then (laws_FnStreams.j0 k t101 (y119 ++ t107)) else (none))) else (none))) else (none)) else (none))))) else (laws_FnStreams.j0 k t101 t107))))))) = some r := h
  clear h
  by_cases c2 : (l0.length : Int) > 1048576
  · rw [if_pos c2] at H
    have c2b0 : decide (1048576 < (l0.length : Int)) = true := decide_eq_true c2
    have c2b1 : decide (1048576 < l0.length) = true := decide_eq_true (by omega)
    clear c2
    obtain rfl := Option.some.inj H
    go_enter Try.func20, Try.ntmps20
    go_wp2
    all_goals (go_ret; exact ⟨by first | rfl | (simp [errW_none, errW_some] <;> rfl) | (simp [*, errW_none, errW_some] <;> rfl), by repeat (first | (with_reducible first | exact HB.out | apply below_alloc | apply pw_below_drewN | apply below_drew1) | exact HB.out)⟩)
  · rw [if_neg c2] at H
    have c2b0 : decide (1048576 < (l0.length : Int)) = false := decide_eq_false c2
    have c2b1 : decide (1048576 < l0.length) = false := decide_eq_false (by omega)
    clear c2
    replace H := Option.bind_eq_some_iff.mp H
    obtain ⟨t101, A30, H⟩ := H
    replace H : ((laws_fresh.f k l0 3).bind fun t104 => ((spec_MakeStream.f k t104 10).bind fun t107 => ((laws_at.f l0 1).bind fun t110 => (if (Int.tmod t110 2) = 0 then ((some (([] : List Int) : List Int)).bind fun y111 => ((laws_at.f l0 2).bind fun t114 => (if (wrap64 ((t101.length : Int) + 1)) = 0 then (none) else (if 0 ≤ (Int.tmod t114 (wrap64 ((t101.length : Int) + 1))) then (if (Int.tmod t114 (wrap64 ((t101.length : Int) + 1))) ≤ (t101.length : Int) then ((some (t101.take ((Int.tmod t114 (wrap64 ((t101.length : Int) + 1))) : Int).toNat : List Int)).bind fun y115 => (if y111.length + y115.length < 17592186044416 then ((some (y111 ++ y115 : List Int)).bind fun y119 => (if y119.length + t107.length < 17592186044416 then (laws_FnStreams.j0 k t101 (y119 ++ t107)) else (none))) else (none))) else (none)) else (none))))) else (laws_FnStreams.j0 k t101 t107))))) = some r := H
    have A3 := Aside0.mk A30
    clear A30
    replace H := Option.bind_eq_some_iff.mp H
    obtain ⟨t104, A40, H⟩ := H
    replace H : ((spec_MakeStream.f k t104 10).bind fun t107 => ((laws_at.f l0 1).bind fun t110 => (if (Int.tmod t110 2) = 0 then ((some (([] : List Int) : List Int)).bind fun y111 => ((laws_at.f l0 2).bind fun t114 => (if (wrap64 ((t101.length : Int) + 1)) = 0 then (none) else (if 0 ≤ (Int.tmod t114 (wrap64 ((t101.length : Int) + 1))) then (if (Int.tmod t114 (wrap64 ((t101.length : Int) + 1))) ≤ (t101.length : Int) then ((some (t101.take ((Int.tmod t114 (wrap64 ((t101.length : Int) + 1))) : Int).toNat : List Int)).bind fun y115 => (if y111.length + y115.length < 17592186044416 then ((some (y111 ++ y115 : List Int)).bind fun y119 => (if y119.length + t107.length < 17592186044416 then (laws_FnStreams.j0 k t101 (y119 ++ t107)) else (none))) else (none))) else (none)) else (none))))) else (laws_FnStreams.j0 k t101 t107)))) = some r := H
    have A4 := Aside0.mk A40
    clear A40
    replace H := Option.bind_eq_some_iff.mp H
    obtain ⟨t107, A50, H⟩ := H
    replace H : ((laws_at.f l0 1).bind fun t110 => (if (Int.tmod t110 2) = 0 then ((some (([] : List Int) : List Int)).bind fun y111 => ((laws_at.f l0 2).bind fun t114 => (if (wrap64 ((t101.length : Int) + 1)) = 0 then (none) else (if 0 ≤ (Int.tmod t114 (wrap64 ((t101.length : Int) + 1))) then (if (Int.tmod t114 (wrap64 ((t101.length : Int) + 1))) ≤ (t101.length : Int) then ((some (t101.take ((Int.tmod t114 (wrap64 ((t101.length : Int) + 1))) : Int).toNat : List Int)).bind fun y115 => (if y111.length + y115.length < 17592186044416 then ((some (y111 ++ y115 : List Int)).bind fun y119 => (if y119.length + t107.length < 17592186044416 then (laws_FnStreams.j0 k t101 (y119 ++ t107)) else (none))) else (none))) else (none)) else (none))))) else (laws_FnStreams.j0 k t101 t107))) = some r := H
    have A5 := Aside0.mk A50
    clear A50
    replace H := Option.bind_eq_some_iff.mp H
    obtain ⟨t110, A60, H⟩ := H
    replace H : (if (Int.tmod t110 2) = 0 then ((some (([] : List Int) : List Int)).bind fun y111 => ((laws_at.f l0 2).bind fun t114 => (if (wrap64 ((t101.length : Int) + 1)) = 0 then (none) else (if 0 ≤ (Int.tmod t114 (wrap64 ((t101.length : Int) + 1))) then (if (Int.tmod t114 (wrap64 ((t101.length : Int) + 1))) ≤ (t101.length : Int) then ((some (t101.take ((Int.tmod t114 (wrap64 ((t101.length : Int) + 1))) : Int).toNat : List Int)).bind fun y115 => (if y111.length + y115.length < 17592186044416 then ((some (y111 ++ y115 : List Int)).bind fun y119 => (if y119.length + t107.length < 17592186044416 then (laws_FnStreams.j0 k t101 (y119 ++ t107)) else (none))) else (none))) else (none)) else (none))))) else (laws_FnStreams.j0 k t101 t107)) = some r := H
    have A6 := Aside0.mk A60
    clear A60
    have HC7 := Aside0.mk H
    clear H
    go_enter Try.func20, Try.ntmps20
    go_upto_if 23 with (first | ((with_reducible refine gate_callee (f := 71) rfl ?_); refine goesL_ (some 16) rfl rfl Try.func71 (by kernel_rfl) rfl #[.slice A0 l0.length c0, .int .i64 10] rfl (by (try simp only [List.map_toArray, List.map_cons, List.map_nil]); first | done | rfl | (simp only [List.length_drop, List.length_take]; rfl)) ?_; (with_reducible refine (spec_MakeStream.calls k _ _ l0 10 t101 _ ?side1 ?side2 A3.out).mono ?_); (case side1 => repeat (first | exact HR0.out | (with_reducible refine Kd.C_alloc ?_ _) | (with_reducible refine Kd.C_drewN ?_ _) | (with_reducible refine Kd.C_drew ?_))); (case side2 => exact HC0.out); rintro e w8 ⟨v102, rfl, ho0, hb⟩; refine ⟨_, rfl, ?_⟩; have n0_ := Aside0.mk (Kd.R_lower ho0 (below_size (by repeat (first | (with_reducible first | exact HB.out | apply below_alloc | apply pw_below_drewN | apply below_drew1) | exact HB.out)))); have n1_ := Aside0.mk (below_step (by repeat (first | (with_reducible first | exact HB.out | apply below_alloc | apply pw_below_drewN | apply below_drew1) | exact HB.out)) hb); clear HB; have HO103 := n0_; have HB := n1_; clear n0_ n1_; (try clear hb); (try clear hb2); (try clear hk); (try clear hi); (try clear ho0)) | ((with_reducible refine gate_callee (f := 72) rfl ?_); refine goesL_ (some 18) rfl rfl Try.func72 (by kernel_rfl) rfl #[.slice A0 l0.length c0, .int .i64 3] rfl (by (try simp only [List.map_toArray, List.map_cons, List.map_nil]); first | done | rfl | (simp only [List.length_drop, List.length_take]; rfl)) ?_; (with_reducible refine (laws_fresh.calls k _ _ l0 3 t104 _ ?side1 ?side2 A4.out).mono ?_); (case side1 => repeat (first | exact (Kd.C_below HR0.out HB.out) | (with_reducible refine Kd.C_alloc ?_ _) | (with_reducible refine Kd.C_drewN ?_ _) | (with_reducible refine Kd.C_drew ?_))); (case side2 => exact HC0.out); rintro e w9 ⟨v105, rfl, ho0, hb⟩; refine ⟨_, rfl, ?_⟩; have n0_ := Aside0.mk (Kd.R_below (by (with_reducible repeat (first | apply Kd.R_alloc | apply Kd.R_drewN | apply Kd.R_drew)); exact HO103.out) hb); have n1_ := Aside0.mk (Kd.R_lower ho0 (below_size (by repeat (first | (with_reducible first | exact HB.out | apply below_alloc | apply pw_below_drewN | apply below_drew1) | exact HB.out)))); have n2_ := Aside0.mk (below_step (by repeat (first | (with_reducible first | exact HB.out | apply below_alloc | apply pw_below_drewN | apply below_drew1) | exact HB.out)) hb); clear HO103; clear HB; have HO103 := n0_; have HO106 := n1_; have HB := n2_; clear n0_ n1_ n2_; (try clear hb); (try clear hb2); (try clear hk); (try clear hi); (try clear ho0); obtain ⟨Ao10, co10, eo10⟩ := Kd.R_slice HO106.out; subst eo10) | ((with_reducible refine gate_callee (f := 71) rfl ?_); refine goesL_ (some 19) rfl rfl Try.func71 (by kernel_rfl) rfl #[.slice Ao10 t104.length co10, .int .i64 10] rfl (by (try simp only [List.map_toArray, List.map_cons, List.map_nil]); first | done | rfl | (simp only [List.length_drop, List.length_take]; rfl)) ?_; (with_reducible refine (spec_MakeStream.calls k _ _ t104 10 t107 _ ?side1 ?side2 A5.out).mono ?_); (case side1 => repeat (first | exact (Kd.R_reads' HO106.out).2.2 | (with_reducible refine Kd.C_alloc ?_ _) | (with_reducible refine Kd.C_drewN ?_ _) | (with_reducible refine Kd.C_drew ?_))); (case side2 => exact (Kd.R_reads' HO106.out).2.1); rintro e w11 ⟨v108, rfl, ho0, hb⟩; refine ⟨_, rfl, ?_⟩; have n0_ := Aside0.mk (Kd.R_elder' (by (with_reducible repeat (first | apply Kd.R_alloc | apply Kd.R_drewN | apply Kd.R_drew)); exact HO103.out) (Kd.R_base ho0) hb); have n1_ := Aside0.mk (Kd.R_below (by (with_reducible repeat (first | apply Kd.R_alloc | apply Kd.R_drewN | apply Kd.R_drew)); exact HO106.out) hb); have n2_ := Aside0.mk (Kd.R_lower (Kd.R_new' ho0 (Kd.R_lt (by (with_reducible repeat (first | apply Kd.R_alloc | apply Kd.R_drewN | apply Kd.R_drew)); exact HO103.out))) (below_size (by repeat (first | (with_reducible first | exact HB.out | apply below_alloc | apply pw_below_drewN | apply below_drew1) | exact HB.out)))); have n3_ := Aside0.mk (below_step (by repeat (first | (with_reducible first | exact HB.out | apply below_alloc | apply pw_below_drewN | apply below_drew1) | exact HB.out)) hb); clear HO103; clear HO106; clear HB; have HO103 := n0_; have HO106 := n1_; have HO109 := n2_; have HB := n3_; clear n0_ n1_ n2_ n3_; (try clear hb); (try clear hb2); (try clear hk); (try clear hi); (try clear ho0)) | ((with_reducible refine gate_callee (f := 33) rfl ?_); refine goesL_ (some 21) rfl rfl Try.func33 (by kernel_rfl) rfl #[.slice A0 l0.length c0, .int .i64 1] rfl (by (try simp only [List.map_toArray, List.map_cons, List.map_nil]); first | done | rfl | (simp only [List.length_drop, List.length_take]; rfl)) ?_; (with_reducible refine (laws_at.calls _ _ l0 1 t110 _ ?side1 ?side2 A6.out).mono ?_); (case side1 => repeat (first | exact (Kd.C_below HR0.out HB.out) | (with_reducible refine Kd.C_alloc ?_ _) | (with_reducible refine Kd.C_drewN ?_ _) | (with_reducible refine Kd.C_drew ?_))); (case side2 => exact HC0.out); rintro e w' ⟨rfl, ⟨nd, rfl⟩⟩; refine ⟨_, rfl, ?_⟩))
    (try simp only [Act.put, List.setIfInBounds_toArray, List.set_cons_zero, List.set_cons_succ])
    go_cut [4] (fun v4 wc => ∃ (kq : Nat) (x4_6 : List Int), Aside0 (laws_FnStreams.j0 kq t101 x4_6 = some r) ∧ Aside0 (kq ≤ k) ∧ Aside0 (Kd.R (Kd.int .i64) 3 wc w.heap.size (fun k_ => some k_ ≠ (v4 : Value).ownBlock) v102 t101) ∧ Aside0 (Kd.R (Kd.int .i64) 3 wc w.heap.size (fun k_ => some k_ ≠ (v102 : Value).ownBlock) v4 x4_6) ∧ Aside0 (Below w.heap.size w wc))
    case first =>
      have H := HC7.out
      clear HC7
      by_cases c12 : (Int.tmod t110 2) = 0
      · rw [if_pos c12] at H
        have c12b0 : ((Int.tmod t110 2) == 0) = true := beq_iff_eq.mpr c12
        have c12b1 : ((Int.tmod t110 2) != 0) = false := bne_eq_false_iff_eq.mpr c12
        clear c12
        (first | rw [c12b0] | (simp only [i64_w, i32_w]; rw [c12b0]) | skip)
        obtain ⟨y111, hy111⟩ : ∃ y_ : List Int, y_ = (([] : List Int)) := ⟨_, rfl⟩
        replace H : ((laws_at.f l0 2).bind fun t114 => (if (wrap64 ((t101.length : Int) + 1)) = 0 then (none) else (if 0 ≤ (Int.tmod t114 (wrap64 ((t101.length : Int) + 1))) then (if (Int.tmod t114 (wrap64 ((t101.length : Int) + 1))) ≤ (t101.length : Int) then ((some (t101.take ((Int.tmod t114 (wrap64 ((t101.length : Int) + 1))) : Int).toNat : List Int)).bind fun y115 => (if y111.length + y115.length < 17592186044416 then ((some (y111 ++ y115 : List Int)).bind fun y119 => (if y119.length + t107.length < 17592186044416 then (laws_FnStreams.j0 k t101 (y119 ++ t107)) else (none))) else (none))) else (none)) else (none)))) = some r := by first | (rw [hy111]; with_reducible exact H) | (have H2_ := (Option.bind_some _ _).symm.trans H; rw [hy111]; with_reducible exact H2_) | (have H2_ := (Option.bind_some _ _).symm.trans H; with_reducible exact H2_) | with_reducible exact H | (rw [hy111]; exact H) | exact H
        have Ny111 := Aside0.mk hy111
        clear hy111
        replace H := Option.bind_eq_some_iff.mp H
        obtain ⟨t114, A130, H⟩ := H
        replace H : (if (wrap64 ((t101.length : Int) + 1)) = 0 then (none) else (if 0 ≤ (Int.tmod t114 (wrap64 ((t101.length : Int) + 1))) then (if (Int.tmod t114 (wrap64 ((t101.length : Int) + 1))) ≤ (t101.length : Int) then ((some (t101.take ((Int.tmod t114 (wrap64 ((t101.length : Int) + 1))) : Int).toNat : List Int)).bind fun y115 => (if y111.length + y115.length < 17592186044416 then ((some (y111 ++ y115 : List Int)).bind fun y119 => (if y119.length + t107.length < 17592186044416 then (laws_FnStreams.j0 k t101 (y119 ++ t107)) else (none))) else (none))) else (none)) else (none))) = some r := H
        have A13 := Aside0.mk A130
        clear A130
        by_cases c14 : (wrap64 ((t101.length : Int) + 1)) = 0
        · rw [if_pos c14] at H
          exact absurd H (by simp)
        · rw [if_neg c14] at H
          have c14b0 : ((wrap64 ((t101.length : Int) + 1)) == 0) = false := beq_eq_false_iff_ne.mpr c14
          have c14b1 : ((wrap64 ((t101.length : Int) + 1)) != 0) = true := bne_iff_ne.mpr c14
          obtain ⟨ji15, hji15⟩ : ∃ j_ : Int, (Int.tmod t114 (wrap64 ((t101.length : Int) + 1))) = j_ := ⟨_, rfl⟩
          replace H : (if 0 ≤ (ji15) then (if (ji15) ≤ (t101.length : Int) then ((some (t101.take ((ji15) : Int).toNat : List Int)).bind fun y115 => (if y111.length + y115.length < 17592186044416 then ((some (y111 ++ y115 : List Int)).bind fun y119 => (if y119.length + t107.length < 17592186044416 then (laws_FnStreams.j0 k t101 (y119 ++ t107)) else (none))) else (none))) else (none)) else (none)) = some r := by first | (rw [hji15] at H; exact H) | (simp only [hji15] at H ⊢; exact H)
          (try rw [hji15] at A13)
          by_cases c16 : 0 ≤ (ji15)
          · rw [if_pos c16] at H
            have c16b0 := eq_true c16
            have c16b1 : decide (0 ≤ (ji15)) = true := decide_eq_true c16
            clear c16
            by_cases c17 : (ji15) ≤ (t101.length : Int)
            · rw [if_pos c17] at H
              have c17b0 := eq_true c17
              have c17b1 : decide ((ji15) ≤ (t101.length : Int)) = true := decide_eq_true c17
              clear c17
              obtain ⟨y115, hy115⟩ : ∃ y_ : List Int, y_ = (t101.take ((ji15) : Int).toNat) := ⟨_, rfl⟩
              replace H : (if y111.length + y115.length < 17592186044416 then ((some (y111 ++ y115 : List Int)).bind fun y119 => (if y119.length + t107.length < 17592186044416 then (laws_FnStreams.j0 k t101 (y119 ++ t107)) else (none))) else (none)) = some r := by first | (rw [hy115]; with_reducible exact H) | (have H2_ := (Option.bind_some _ _).symm.trans H; rw [hy115]; with_reducible exact H2_) | (have H2_ := (Option.bind_some _ _).symm.trans H; with_reducible exact H2_) | with_reducible exact H | (rw [hy115]; exact H) | exact H
              have Ny115 := Aside0.mk hy115
              clear hy115
              by_cases c18 : y111.length + y115.length < 17592186044416
              · rw [if_pos c18] at H
                have LMc18 := Aside0.mk c18
                clear c18
                obtain ⟨y119, hy119⟩ : ∃ y_ : List Int, y_ = (y111 ++ y115) := ⟨_, rfl⟩
                replace H : (if y119.length + t107.length < 17592186044416 then (laws_FnStreams.j0 k t101 (y119 ++ t107)) else (none)) = some r := by first | (rw [hy119]; with_reducible exact H) | (have H2_ := (Option.bind_some _ _).symm.trans H; rw [hy119]; with_reducible exact H2_) | (have H2_ := (Option.bind_some _ _).symm.trans H; with_reducible exact H2_) | with_reducible exact H | (rw [hy119]; exact H) | exact H
                have Ny119 := Aside0.mk hy119
                clear hy119
                by_cases c19 : y119.length + t107.length < 17592186044416
                · rw [if_pos c19] at H
                  have LMc19 := Aside0.mk c19
                  clear c19
                  obtain ⟨y122, hy122⟩ : ∃ y_ : List Int, y_ = (y119 ++ t107) := ⟨_, rfl⟩
                  replace H : (laws_FnStreams.j0 k t101 y122) = some r := by first | (rw [hy122]; with_reducible exact H) | (have H2_ := (Option.bind_some _ _).symm.trans H; rw [hy122]; with_reducible exact H2_) | (have H2_ := (Option.bind_some _ _).symm.trans H; with_reducible exact H2_) | with_reducible exact H | (rw [hy122]; exact H) | exact H
                  have Ny122 := Aside0.mk hy122
                  clear hy122
                  have H' := Aside0.mk H
                  clear H
                  go_wp2_with (first | ((with_reducible refine gate_dst (N := 24) rfl ?_); (try (refine gate_guard (by rfl) ?_; dsimp only)); refine Kd.R_lit (Kd.int .i64) _ 3 ?hg (N := 24) ?hd (xs := ([] : List Int)) (inner := []) (ok := fun _ => True) (okp := fun _ => True) ?hr ?hp (fun _ hk => hk) trivial (Below.refl _ _) (Nat.le_refl _) (by simp) ?_; (case hd => rfl); (case hg => rfl); (case hr => first | (go_simp; done) | (go_simp; rfl)); (case hp => exact (Reps.none _ _)); intro v112 w20 ho21 hb hg_ hnew_; clear hg_ hnew_; (first | rw [← Ny111.out] at ho21 | (simp only [Int.reduceToNat] at ho21; rw [← Ny111.out] at ho21)); have n0_ := Aside0.mk (Kd.R_elder' (by (with_reducible repeat (first | apply Kd.R_alloc | apply Kd.R_drewN | apply Kd.R_drew)); exact HO103.out) (Kd.R_base ho21) hb); have n1_ := Aside0.mk (Kd.R_below (by (with_reducible repeat (first | apply Kd.R_alloc | apply Kd.R_drewN | apply Kd.R_drew)); exact HO106.out) hb); have n2_ := Aside0.mk (Kd.R_elder' (by (with_reducible repeat (first | apply Kd.R_alloc | apply Kd.R_drewN | apply Kd.R_drew)); exact HO109.out) (Kd.R_base ho21) hb); have n3_ := Aside0.mk (Kd.R_lower (Kd.R_new' (Kd.R_new' ho21 (Kd.R_lt (by (with_reducible repeat (first | apply Kd.R_alloc | apply Kd.R_drewN | apply Kd.R_drew)); exact HO103.out))) (Kd.R_lt (by (with_reducible repeat (first | apply Kd.R_alloc | apply Kd.R_drewN | apply Kd.R_drew)); exact HO109.out))) (below_size (by repeat (first | (with_reducible first | exact HB.out | apply below_alloc | apply pw_below_drewN | apply below_drew1) | exact HB.out)))); have n4_ := Aside0.mk (below_step (by repeat (first | (with_reducible first | exact HB.out | apply below_alloc | apply pw_below_drewN | apply below_drew1) | exact HB.out)) hb); clear HO103; clear HO106; clear HO109; clear HB; have HO103 := n0_; have HO106 := n1_; have HO109 := n2_; have HO113 := n3_; have HB := n4_; clear n0_ n1_ n2_ n3_ n4_; clear hb ho21) | ((with_reducible refine gate_callee (f := 33) rfl ?_); refine goesL_ (some 27) rfl rfl Try.func33 (by kernel_rfl) rfl #[.slice A0 l0.length c0, .int .i64 2] rfl (by (try simp only [List.map_toArray, List.map_cons, List.map_nil]); first | done | rfl | (simp only [List.length_drop, List.length_take]; rfl)) ?_; (with_reducible refine (laws_at.calls _ _ l0 2 t114 _ ?side1 ?side2 A13.out).mono ?_); (case side1 => repeat (first | exact (Kd.C_below HR0.out HB.out) | (with_reducible refine Kd.C_alloc ?_ _) | (with_reducible refine Kd.C_drewN ?_ _) | (with_reducible refine Kd.C_drew ?_))); (case side2 => exact HC0.out); rintro e w' ⟨rfl, ⟨nd, rfl⟩⟩; refine ⟨_, rfl, ?_⟩; obtain ⟨Ao22, co22, eo22⟩ := Kd.R_slice HO103.out; subst eo22; have q23 : ((ji15) : Int) ≤ ((t101.length : Int) : Int) := of_decide_eq_true (by first | (with_reducible assumption) | assumption); obtain ⟨i023, hi023, _, hsz23, _⟩ := info_parts info3; have hroom23 : t101.length ≤ co22 := (Kd.R_reads' HO103.out).2.1; have hC23 : Kd.C (Kd.int .i64) _ Ao22 t101.length t101 := (Kd.R_reads' HO103.out).2.2; have hcut23 := cut_to (P := Try.prog) 28 3 .i64 Try.underlying28 hi023 Ao22 t101.length co22 (ji15) (of_decide_eq_true (by first | (with_reducible assumption) | assumption)) q23 hroom23; have hr23 := Kd.C_take (m := ((ji15) : Int).toNat) hC23 (by omega); have hy23 : y115.length = ((ji15) : Int).toNat := (by rw [Ny115.out, List.length_take]; omega); rw [← Ny115.out] at hr23; rw [← hy23] at hcut23; have HR118 := Aside0.mk hr23; have HC118 := Aside0.mk (show y115.length ≤ co22 from by omega); clear hr23 hC23 hroom23 hi023 hsz23; have KY23 := Aside0.mk hy23; clear hy23; have KL23 := Aside0.mk (show ((ji15) : Int).toNat ≤ t101.length from by omega); replace q23 := eq_true q23) | ((with_reducible refine gate_builtin (b := .append) (xs := #[.tmp 24, .tmp 32]) rfl ?_); (try (refine gate_guard (by rfl) ?_; dsimp only)); at_builtin; refine Kd.R_append_rows (Kd.int .i64) (w0 := w) w.heap.size rfl (.tmp 24) (.tmp 32) 28 3 (.int .i64 0) 8 rfl Try.underlying28 info3 rfl (by decide) (by omega) v112 y111 y115 _ _ _ (fun k_ => some k_ ≠ (.slice Ao22 t101.length co22 : Value).ownBlock ∧ some k_ ≠ (v108 : Value).ownBlock) (fun _ => False) rfl rfl ?aO ?aR (fun _ _ h => h) (fun _ h => h.elim) ?aF ?aB ?aS ?aL ?_; (case aR => repeat (first | exact (by repeat (first | (with_reducible exact HR118.out) | (with_reducible refine Kd.C_alloc ?_ _) | (with_reducible refine Kd.C_drewN ?_ _) | (with_reducible refine Kd.C_drew ?_) | exact HR118.out)) | (with_reducible refine Kd.C_alloc ?_ _) | (with_reducible refine Kd.C_drewN ?_ _) | (with_reducible refine Kd.C_drew ?_))); (case aB => exact (by repeat (first | (with_reducible first | exact HB.out | apply below_alloc | apply pw_below_drewN | apply below_drew1) | exact HB.out))); (case aF => exact (fun k_ hk => ⟨Kd.fresh' (Kd.R_lt (by (with_reducible repeat (first | apply Kd.R_alloc | apply Kd.R_drewN | apply Kd.R_drew)); exact HO103.out)) k_ hk, Kd.fresh' (Kd.R_lt (by (with_reducible repeat (first | apply Kd.R_alloc | apply Kd.R_drewN | apply Kd.R_drew)); exact HO109.out)) k_ hk⟩)); (case aO => exact (by (with_reducible repeat (first | apply Kd.R_alloc | apply Kd.R_drewN | apply Kd.R_drew)); exact Kd.R_mono HO113.out (fun _ hk => ⟨hk.1.2, hk.2⟩))); (case aS => exact (below_size (by repeat (first | (with_reducible first | exact HB.out | apply below_alloc | apply pw_below_drewN | apply below_drew1) | exact HB.out)))); (case aL => have := LMc18.out; omega); intro v120 w24 ho hb hg hat; rw [← Ny119.out] at ho; have n0_ := Aside0.mk (Kd.R_after (ok := (fun k_ => some k_ ≠ (v108 : Value).ownBlock)) (by (with_reducible repeat (first | apply Kd.R_alloc | apply Kd.R_drewN | apply Kd.R_drew)); exact Kd.R_mono HO103.out (fun _ hk => ⟨hk.1.2, hk.2⟩)) hg hat); have n1_ := Aside0.mk (Kd.R_over' (by (with_reducible repeat (first | apply Kd.R_alloc | apply Kd.R_drewN | apply Kd.R_drew)); exact HO106.out) (Kd.R_typed (by (with_reducible repeat (first | apply Kd.R_alloc | apply Kd.R_drewN | apply Kd.R_drew)); exact HO113.out)) (by decide) hg); have n2_ := Aside0.mk (Kd.R_after (ok := (fun k_ => some k_ ≠ (.slice Ao22 t101.length co22 : Value).ownBlock)) (by (with_reducible repeat (first | apply Kd.R_alloc | apply Kd.R_drewN | apply Kd.R_drew)); exact Kd.R_mono HO109.out (fun _ hk => ⟨hk.1.2, hk.2⟩)) hg hat); have n3_ := Aside0.mk (hb); have n4_ := Aside0.mk ((show Kd.C (Kd.int .i64) w24 Ao22 y115.length y115 from by rw [Ny115.out]; exact Kd.C_take (m := ((ji15) : Int).toNat) ((Kd.R_reads' (Kd.R_after (ok := (fun k_ => some k_ ≠ (v108 : Value).ownBlock)) (by (with_reducible repeat (first | apply Kd.R_alloc | apply Kd.R_drewN | apply Kd.R_drew)); exact Kd.R_mono HO103.out (fun _ hk => ⟨hk.1.2, hk.2⟩)) hg hat)).2.2) KL23.out)); have n5_ := Aside0.mk (ho); clear HO103; clear HO106; clear HO109; clear HB; clear HR118; clear HO113; have HO103 := n0_; have HO106 := n1_; have HO109 := n2_; have HB := n3_; have HR118 := n4_; have HO121 := n5_; clear n0_ n1_ n2_ n3_ n4_ n5_; clear ho hb hg hat; obtain ⟨Ao26, co26, eo26⟩ := Kd.R_slice HO109.out; subst eo26) | ((with_reducible refine gate_builtin (b := .append) (xs := #[.tmp 33, .tmp 34]) rfl ?_); (try (refine gate_guard (by rfl) ?_; dsimp only)); at_builtin; refine Kd.R_append_rows (Kd.int .i64) (w0 := w) w.heap.size rfl (.tmp 33) (.tmp 34) 28 3 (.int .i64 0) 8 rfl Try.underlying28 info3 rfl (by decide) (by omega) v120 y119 t107 _ _ _ (fun k_ => some k_ ≠ (.slice Ao22 t101.length co22 : Value).ownBlock ∧ some k_ ≠ (.slice Ao26 t107.length co26 : Value).ownBlock) (fun _ => False) rfl rfl ?aO ?aR (fun _ _ h => h) (fun _ h => h.elim) ?aF ?aB ?aS ?aL ?_; (case aR => repeat (first | exact (Kd.R_reads' HO109.out).2.2 | (with_reducible refine Kd.C_alloc ?_ _) | (with_reducible refine Kd.C_drewN ?_ _) | (with_reducible refine Kd.C_drew ?_))); (case aB => exact (by repeat (first | (with_reducible first | exact HB.out | apply below_alloc | apply pw_below_drewN | apply below_drew1) | exact HB.out))); (case aF => exact (fun k_ hk => ⟨Kd.fresh' (Kd.R_lt (by (with_reducible repeat (first | apply Kd.R_alloc | apply Kd.R_drewN | apply Kd.R_drew)); exact HO103.out)) k_ hk, Kd.fresh' (Kd.R_lt (by (with_reducible repeat (first | apply Kd.R_alloc | apply Kd.R_drewN | apply Kd.R_drew)); exact HO109.out)) k_ hk⟩)); (case aO => exact (by (with_reducible repeat (first | apply Kd.R_alloc | apply Kd.R_drewN | apply Kd.R_drew)); exact HO121.out)); (case aS => exact (below_size (by repeat (first | (with_reducible first | exact HB.out | apply below_alloc | apply pw_below_drewN | apply below_drew1) | exact HB.out)))); (case aL => have := LMc19.out; omega); intro v123 w25 ho hb hg hat; rw [← Ny122.out] at ho; have n0_ := Aside0.mk (Kd.R_after (ok := (fun k_ => some k_ ≠ (.slice Ao26 t107.length co26 : Value).ownBlock)) (by (with_reducible repeat (first | apply Kd.R_alloc | apply Kd.R_drewN | apply Kd.R_drew)); exact HO103.out) hg hat); have n1_ := Aside0.mk (Kd.R_over' (by (with_reducible repeat (first | apply Kd.R_alloc | apply Kd.R_drewN | apply Kd.R_drew)); exact HO106.out) (Kd.R_typed (by (with_reducible repeat (first | apply Kd.R_alloc | apply Kd.R_drewN | apply Kd.R_drew)); exact HO121.out)) (by decide) hg); have n2_ := Aside0.mk (Kd.R_after (ok := (fun k_ => some k_ ≠ (.slice Ao22 t101.length co22 : Value).ownBlock)) (by (with_reducible repeat (first | apply Kd.R_alloc | apply Kd.R_drewN | apply Kd.R_drew)); exact HO109.out) hg hat); have n3_ := Aside0.mk (hb); have n4_ := Aside0.mk ((show Kd.C (Kd.int .i64) w25 Ao22 y115.length y115 from by rw [Ny115.out]; exact Kd.C_take (m := ((ji15) : Int).toNat) ((Kd.R_reads' (Kd.R_after (ok := (fun k_ => some k_ ≠ (.slice Ao26 t107.length co26 : Value).ownBlock)) (by (with_reducible repeat (first | apply Kd.R_alloc | apply Kd.R_drewN | apply Kd.R_drew)); exact HO103.out) hg hat)).2.2) KL23.out)); have n5_ := Aside0.mk (ho); clear HO103; clear HO106; clear HO109; clear HB; clear HR118; clear HO121; have HO103 := n0_; have HO106 := n1_; have HO109 := n2_; have HB := n3_; have HR118 := n4_; have HO124 := n5_; clear n0_ n1_ n2_ n3_ n4_ n5_; clear ho hb hg hat))
                  all_goals (go_meet; (case rel => exact ⟨_, (y122), H', ⟨by first | omega | exact Nat.le_refl _⟩, ⟨by (with_reducible repeat (first | apply Kd.R_alloc | apply Kd.R_drewN | apply Kd.R_drew)); exact Kd.R_mono HO103.out (fun _ hk => hk.2)⟩, ⟨by (with_reducible repeat (first | apply Kd.R_alloc | apply Kd.R_drewN | apply Kd.R_drew)); exact Kd.R_mono HO124.out (fun _ hk => hk.1)⟩, ⟨by repeat (first | (with_reducible first | exact HB.out | apply below_alloc | apply pw_below_drewN | apply below_drew1) | exact HB.out)⟩⟩))
                · rw [if_neg c19] at H
                  exact absurd H (by simp)
              · rw [if_neg c18] at H
                exact absurd H (by simp)
            · rw [if_neg c17] at H
              exact absurd H (by simp)
          · rw [if_neg c16] at H
            exact absurd H (by simp)
      · rw [if_neg c12] at H
        have c12b0 : ((Int.tmod t110 2) == 0) = false := beq_eq_false_iff_ne.mpr c12
        have c12b1 : ((Int.tmod t110 2) != 0) = true := bne_iff_ne.mpr c12
        (first | rw [c12b0] | (simp only [i64_w, i32_w]; rw [c12b0]) | skip)
        have H' := Aside0.mk H
        clear H
        go_wp2
        all_goals (go_meet; (case rel => exact ⟨_, (t107), H', ⟨by first | omega | exact Nat.le_refl _⟩, ⟨by (with_reducible repeat (first | apply Kd.R_alloc | apply Kd.R_drewN | apply Kd.R_drew)); exact Kd.R_mono HO103.out (fun _ hk => hk.2)⟩, ⟨by (with_reducible repeat (first | apply Kd.R_alloc | apply Kd.R_drewN | apply Kd.R_drew)); exact Kd.R_mono HO109.out (fun _ hk => hk.2)⟩, ⟨by repeat (first | (with_reducible first | exact HB.out | apply below_alloc | apply pw_below_drewN | apply below_drew1) | exact HB.out)⟩⟩))
    case rest =>
      clear HC7
      try clear c1
      try clear c2
      try clear c2b0
      try clear c2b1
      try clear p2
      try clear q2
      try clear c3
      try clear p6
      try clear c7
      try clear c12
      try clear c12b0
      try clear c12b1
      try clear c14
      try clear c14b0
      try clear c14b1
      try clear c16
      try clear c16b0
      try clear c16b1
      try clear c17
      try clear c17b0
      try clear c17b1
      try clear c18
      try clear c19
      try clear c20
      try clear q23
      try clear q23
      obtain ⟨kq, x4_6, HA, HJ6, HO_3, HO_4, HB⟩ := hcut
      cases kq with
      | zero => exact absurd HA.out (by simp [laws_FnStreams.j0])
      | succ kj6 =>
        have H := HA.out
        clear HA
        simp only [laws_FnStreams.j0] at H
        replace H := Option.bind_eq_some_iff.mp H
        obtain ⟨t125, A270, H⟩ := H
        replace H : ((impl_JoinStreams.f t101 x4_6).bind fun bt128 => ((impl_AppendStream.f t101 x4_6).bind fun bt132 => ((impl_RestOf.f t101 bt132.1).bind fun bt136 => ((impl_IsPrefix_c.f t125 t101).bind fun t140 => (if t140 = true then ((impl_IsPrefix_c.f t125 x4_6).bind fun t141 => (if t141 = true then ((impl_MeetStreams_c.f x4_6 t101).bind fun t142 => ((laws_ints_c.f t125 t142).bind fun t145 => (if t145 = true then (if bt132.2 = true then (if bt136.2 = true then ((laws_ints_c.f bt136.1 x4_6).bind fun t146 => (laws_FnStreams.j1 kj6 t101 x4_6 t125 bt128.1 bt128.2 (!t146))) else (laws_FnStreams.j1 kj6 t101 x4_6 t125 bt128.1 bt128.2 true)) else (laws_FnStreams.j1 kj6 t101 x4_6 t125 bt128.1 bt128.2 true)) else (laws_FnStreams.j1 kj6 t101 x4_6 t125 bt128.1 bt128.2 true)))) else (laws_FnStreams.j1 kj6 t101 x4_6 t125 bt128.1 bt128.2 true))) else (laws_FnStreams.j1 kj6 t101 x4_6 t125 bt128.1 bt128.2 true)))))) = some r := H
        have A27 := Aside0.mk A270
        clear A270
        replace H := Option.bind_eq_some_iff.mp H
        obtain ⟨⟨t128, t129⟩, A280, H⟩ := H
        replace H : ((impl_AppendStream.f t101 x4_6).bind fun bt132 => ((impl_RestOf.f t101 bt132.1).bind fun bt136 => ((impl_IsPrefix_c.f t125 t101).bind fun t140 => (if t140 = true then ((impl_IsPrefix_c.f t125 x4_6).bind fun t141 => (if t141 = true then ((impl_MeetStreams_c.f x4_6 t101).bind fun t142 => ((laws_ints_c.f t125 t142).bind fun t145 => (if t145 = true then (if bt132.2 = true then (if bt136.2 = true then ((laws_ints_c.f bt136.1 x4_6).bind fun t146 => (laws_FnStreams.j1 kj6 t101 x4_6 t125 t128 t129 (!t146))) else (laws_FnStreams.j1 kj6 t101 x4_6 t125 t128 t129 true)) else (laws_FnStreams.j1 kj6 t101 x4_6 t125 t128 t129 true)) else (laws_FnStreams.j1 kj6 t101 x4_6 t125 t128 t129 true)))) else (laws_FnStreams.j1 kj6 t101 x4_6 t125 t128 t129 true))) else (laws_FnStreams.j1 kj6 t101 x4_6 t125 t128 t129 true))))) = some r := H
        have A28 := Aside0.mk A280
        clear A280
        replace H := Option.bind_eq_some_iff.mp H
        obtain ⟨⟨t132, t135⟩, A290, H⟩ := H
        replace H : ((impl_RestOf.f t101 t132).bind fun bt136 => ((impl_IsPrefix_c.f t125 t101).bind fun t140 => (if t140 = true then ((impl_IsPrefix_c.f t125 x4_6).bind fun t141 => (if t141 = true then ((impl_MeetStreams_c.f x4_6 t101).bind fun t142 => ((laws_ints_c.f t125 t142).bind fun t145 => (if t145 = true then (if t135 = true then (if bt136.2 = true then ((laws_ints_c.f bt136.1 x4_6).bind fun t146 => (laws_FnStreams.j1 kj6 t101 x4_6 t125 t128 t129 (!t146))) else (laws_FnStreams.j1 kj6 t101 x4_6 t125 t128 t129 true)) else (laws_FnStreams.j1 kj6 t101 x4_6 t125 t128 t129 true)) else (laws_FnStreams.j1 kj6 t101 x4_6 t125 t128 t129 true)))) else (laws_FnStreams.j1 kj6 t101 x4_6 t125 t128 t129 true))) else (laws_FnStreams.j1 kj6 t101 x4_6 t125 t128 t129 true)))) = some r := H
        have A29 := Aside0.mk A290
        clear A290
        replace H := Option.bind_eq_some_iff.mp H
        obtain ⟨⟨t136, t137⟩, A300, H⟩ := H
        replace H : ((impl_IsPrefix_c.f t125 t101).bind fun t140 => (if t140 = true then ((impl_IsPrefix_c.f t125 x4_6).bind fun t141 => (if t141 = true then ((impl_MeetStreams_c.f x4_6 t101).bind fun t142 => ((laws_ints_c.f t125 t142).bind fun t145 => (if t145 = true then (if t135 = true then (if t137 = true then ((laws_ints_c.f t136 x4_6).bind fun t146 => (laws_FnStreams.j1 kj6 t101 x4_6 t125 t128 t129 (!t146))) else (laws_FnStreams.j1 kj6 t101 x4_6 t125 t128 t129 true)) else (laws_FnStreams.j1 kj6 t101 x4_6 t125 t128 t129 true)) else (laws_FnStreams.j1 kj6 t101 x4_6 t125 t128 t129 true)))) else (laws_FnStreams.j1 kj6 t101 x4_6 t125 t128 t129 true))) else (laws_FnStreams.j1 kj6 t101 x4_6 t125 t128 t129 true))) = some r := H
        have A30 := Aside0.mk A300
        clear A300
        have HC31 := Aside0.mk H
        clear H
        obtain ⟨Ao32, co32, eo32⟩ := Kd.R_slice HO_3.out
        subst eo32
        obtain ⟨Ao33, co33, eo33⟩ := Kd.R_slice HO_4.out
        subst eo33
        go_upto_region 11 with (first | ((with_reducible refine gate_callee (f := 41) rfl ?_); refine goesL_ (some 38) rfl rfl Try.func41 (by kernel_rfl) rfl #[.slice Ao32 t101.length co32, .slice Ao33 x4_6.length co33] rfl (by (try simp only [List.map_toArray, List.map_cons, List.map_nil]); first | done | rfl | (simp only [List.length_drop, List.length_take]; rfl)) ?_; (with_reducible refine (impl_MeetStreams_c.calls _ _ t101 _ _ x4_6 t125 _ ?side1 ?side2 ?side3 ?side4 A27.out).mono ?_); (case side1 => repeat (first | exact (Kd.R_reads' HO_3.out).2.2 | (with_reducible refine Kd.C_alloc ?_ _) | (with_reducible refine Kd.C_drewN ?_ _) | (with_reducible refine Kd.C_drew ?_))); (case side2 => exact (Kd.R_reads' HO_3.out).2.1); (case side3 => repeat (first | exact (Kd.R_reads' HO_4.out).2.2 | (with_reducible refine Kd.C_alloc ?_ _) | (with_reducible refine Kd.C_drewN ?_ _) | (with_reducible refine Kd.C_drew ?_))); (case side4 => exact (Kd.R_reads' HO_4.out).2.1); rintro e w34 ⟨v126, rfl, ho0, hb⟩; refine ⟨_, rfl, ?_⟩; have n0_ := Aside0.mk (Kd.R_elder' (by (with_reducible repeat (first | apply Kd.R_alloc | apply Kd.R_drewN | apply Kd.R_drew)); exact HO_3.out) (Kd.R_base ho0) hb); have n1_ := Aside0.mk (Kd.R_elder' (by (with_reducible repeat (first | apply Kd.R_alloc | apply Kd.R_drewN | apply Kd.R_drew)); exact HO_4.out) (Kd.R_base ho0) hb); have n2_ := Aside0.mk (Kd.R_lower (Kd.R_new' (Kd.R_new' ho0 (Kd.R_lt (by (with_reducible repeat (first | apply Kd.R_alloc | apply Kd.R_drewN | apply Kd.R_drew)); exact HO_3.out))) (Kd.R_lt (by (with_reducible repeat (first | apply Kd.R_alloc | apply Kd.R_drewN | apply Kd.R_drew)); exact HO_4.out))) (below_size (by repeat (first | (with_reducible first | exact HB.out | apply below_alloc | apply pw_below_drewN | apply below_drew1) | exact HB.out)))); have n3_ := Aside0.mk (below_step (by repeat (first | (with_reducible first | exact HB.out | apply below_alloc | apply pw_below_drewN | apply below_drew1) | exact HB.out)) hb); clear HO_3; clear HO_4; clear HB; have HO_3 := n0_; have HO_4 := n1_; have HO127 := n2_; have HB := n3_; clear n0_ n1_ n2_ n3_; (try clear hb); (try clear hb2); (try clear hk); (try clear hi); (try clear ho0)) | ((with_reducible refine gate_callee (f := 59) rfl ?_); refine goesL_ (some 42) rfl rfl Try.func59 (by kernel_rfl) rfl #[.slice Ao32 t101.length co32, .slice Ao33 x4_6.length co33] rfl (by (try simp only [List.map_toArray, List.map_cons, List.map_nil]); first | done | rfl | (simp only [List.length_drop, List.length_take]; rfl)) ?_; (with_reducible refine (impl_JoinStreams.calls _ _ t101 _ _ x4_6 t128 t129 _ ?side1 ?side2 ?side3 ?side4 A28.out).mono ?_); (case side1 => repeat (first | exact (Kd.R_reads' HO_3.out).2.2 | (with_reducible refine Kd.C_alloc ?_ _) | (with_reducible refine Kd.C_drewN ?_ _) | (with_reducible refine Kd.C_drew ?_))); (case side2 => exact (Kd.R_reads' HO_3.out).2.1); (case side3 => repeat (first | exact (Kd.R_reads' HO_4.out).2.2 | (with_reducible refine Kd.C_alloc ?_ _) | (with_reducible refine Kd.C_drewN ?_ _) | (with_reducible refine Kd.C_drew ?_))); (case side4 => exact (Kd.R_reads' HO_4.out).2.1); rintro e w35 ⟨v130, rfl, ho0, hb⟩; refine ⟨_, rfl, ?_⟩; have n0_ := Aside0.mk (Kd.R_elder' (by (with_reducible repeat (first | apply Kd.R_alloc | apply Kd.R_drewN | apply Kd.R_drew)); exact HO_3.out) (Kd.R_base ho0) hb); have n1_ := Aside0.mk (Kd.R_elder' (by (with_reducible repeat (first | apply Kd.R_alloc | apply Kd.R_drewN | apply Kd.R_drew)); exact HO_4.out) (Kd.R_base ho0) hb); have n2_ := Aside0.mk (Kd.R_elder' (by (with_reducible repeat (first | apply Kd.R_alloc | apply Kd.R_drewN | apply Kd.R_drew)); exact HO127.out) (Kd.R_base ho0) hb); have n3_ := Aside0.mk (Kd.R_lower (Kd.R_new' (Kd.R_new' (Kd.R_new' ho0 (Kd.R_lt (by (with_reducible repeat (first | apply Kd.R_alloc | apply Kd.R_drewN | apply Kd.R_drew)); exact HO_3.out))) (Kd.R_lt (by (with_reducible repeat (first | apply Kd.R_alloc | apply Kd.R_drewN | apply Kd.R_drew)); exact HO_4.out))) (Kd.R_lt (by (with_reducible repeat (first | apply Kd.R_alloc | apply Kd.R_drewN | apply Kd.R_drew)); exact HO127.out))) (below_size (by repeat (first | (with_reducible first | exact HB.out | apply below_alloc | apply pw_below_drewN | apply below_drew1) | exact HB.out)))); have n4_ := Aside0.mk (below_step (by repeat (first | (with_reducible first | exact HB.out | apply below_alloc | apply pw_below_drewN | apply below_drew1) | exact HB.out)) hb); clear HO_3; clear HO_4; clear HO127; clear HB; have HO_3 := n0_; have HO_4 := n1_; have HO127 := n2_; have HO131 := n3_; have HB := n4_; clear n0_ n1_ n2_ n3_ n4_; (try clear hb); (try clear hb2); (try clear hk); (try clear hi); (try clear ho0)) | ((with_reducible refine gate_callee (f := 51) rfl ?_); refine goesL_ (some 48) rfl rfl Try.func51 (by kernel_rfl) rfl #[.slice Ao32 t101.length co32, .slice Ao33 x4_6.length co33] rfl (by (try simp only [List.map_toArray, List.map_cons, List.map_nil]); first | done | rfl | (simp only [List.length_drop, List.length_take]; rfl)) ?_; (with_reducible refine (impl_AppendStream.calls (fun k_ => some k_ = (.slice Ao32 t101.length co32 : Value).ownBlock) _ _ t101 (fun k_ => some k_ = (.slice Ao33 x4_6.length co33 : Value).ownBlock) _ _ x4_6 t132 t135 _ ?side1 ?side2 A29.out).mono ?_); (case side1 => exact Kd.R_V (Kd.R_tight rfl (HO_3.out))); (case side2 => exact Kd.R_V (Kd.R_tight rfl (HO_4.out))); rintro e w36 ⟨v133, rfl, ho0, hb⟩; refine ⟨_, rfl, ?_⟩; have n0_ := Aside0.mk (Kd.R_elder' (by (with_reducible repeat (first | apply Kd.R_alloc | apply Kd.R_drewN | apply Kd.R_drew)); exact HO_3.out) (Kd.R_base ho0) hb); have n1_ := Aside0.mk (Kd.R_elder' (by (with_reducible repeat (first | apply Kd.R_alloc | apply Kd.R_drewN | apply Kd.R_drew)); exact HO_4.out) (Kd.R_base ho0) hb); have n2_ := Aside0.mk (Kd.R_elder' (by (with_reducible repeat (first | apply Kd.R_alloc | apply Kd.R_drewN | apply Kd.R_drew)); exact HO127.out) (Kd.R_base ho0) hb); have n3_ := Aside0.mk (Kd.R_elder' (by (with_reducible repeat (first | apply Kd.R_alloc | apply Kd.R_drewN | apply Kd.R_drew)); exact HO131.out) (Kd.R_base ho0) hb); have n4_ := Aside0.mk (Kd.R_lower (Kd.R_new' (Kd.R_new' (Kd.R_new' (Kd.R_new' (Kd.R_mono (ok' := fun k_ => True) ho0 (fun _ hk_ => trivial)) (Kd.R_lt (by (with_reducible repeat (first | apply Kd.R_alloc | apply Kd.R_drewN | apply Kd.R_drew)); exact HO_3.out))) (Kd.R_lt (by (with_reducible repeat (first | apply Kd.R_alloc | apply Kd.R_drewN | apply Kd.R_drew)); exact HO_4.out))) (Kd.R_lt (by (with_reducible repeat (first | apply Kd.R_alloc | apply Kd.R_drewN | apply Kd.R_drew)); exact HO127.out))) (Kd.R_lt (by (with_reducible repeat (first | apply Kd.R_alloc | apply Kd.R_drewN | apply Kd.R_drew)); exact HO131.out))) (below_size (by repeat (first | (with_reducible first | exact HB.out | apply below_alloc | apply pw_below_drewN | apply below_drew1) | exact HB.out)))); have n5_ := Aside0.mk (below_step (by repeat (first | (with_reducible first | exact HB.out | apply below_alloc | apply pw_below_drewN | apply below_drew1) | exact HB.out)) hb); clear HO_3; clear HO_4; clear HO127; clear HO131; clear HB; have HO_3 := n0_; have HO_4 := n1_; have HO127 := n2_; have HO131 := n3_; have HO134 := n4_; have HB := n5_; clear n0_ n1_ n2_ n3_ n4_ n5_; (try clear hb); (try clear hb2); (try clear hk); (try clear hi); (try clear ho0); obtain ⟨Ao37, co37, eo37⟩ := Kd.R_slice HO134.out; subst eo37) | ((with_reducible refine gate_callee (f := 57) rfl ?_); refine goesL_ (some 54) rfl rfl Try.func57 (by kernel_rfl) rfl #[.slice Ao32 t101.length co32, .slice Ao37 t132.length co37] rfl (by (try simp only [List.map_toArray, List.map_cons, List.map_nil]); first | done | rfl | (simp only [List.length_drop, List.length_take]; rfl)) ?_; (with_reducible refine (impl_RestOf.calls _ _ t101 _ _ t132 t136 t137 _ ?side1 ?side2 ?side3 ?side4 A30.out).mono ?_); (case side1 => repeat (first | exact (Kd.R_reads' HO_3.out).2.2 | (with_reducible refine Kd.C_alloc ?_ _) | (with_reducible refine Kd.C_drewN ?_ _) | (with_reducible refine Kd.C_drew ?_))); (case side2 => exact (Kd.R_reads' HO_3.out).2.1); (case side3 => repeat (first | exact (Kd.R_reads' HO134.out).2.2 | (with_reducible refine Kd.C_alloc ?_ _) | (with_reducible refine Kd.C_drewN ?_ _) | (with_reducible refine Kd.C_drew ?_))); (case side4 => exact (Kd.R_reads' HO134.out).2.1); rintro e w38 ⟨v138, rfl, ho0, hb⟩; refine ⟨_, rfl, ?_⟩; have n0_ := Aside0.mk (Kd.R_elder' (by (with_reducible repeat (first | apply Kd.R_alloc | apply Kd.R_drewN | apply Kd.R_drew)); exact HO_3.out) (Kd.R_base ho0) hb); have n1_ := Aside0.mk (Kd.R_elder' (by (with_reducible repeat (first | apply Kd.R_alloc | apply Kd.R_drewN | apply Kd.R_drew)); exact HO_4.out) (Kd.R_base ho0) hb); have n2_ := Aside0.mk (Kd.R_elder' (by (with_reducible repeat (first | apply Kd.R_alloc | apply Kd.R_drewN | apply Kd.R_drew)); exact HO127.out) (Kd.R_base ho0) hb); have n3_ := Aside0.mk (Kd.R_elder' (by (with_reducible repeat (first | apply Kd.R_alloc | apply Kd.R_drewN | apply Kd.R_drew)); exact HO131.out) (Kd.R_base ho0) hb); have n4_ := Aside0.mk (Kd.R_elder' (by (with_reducible repeat (first | apply Kd.R_alloc | apply Kd.R_drewN | apply Kd.R_drew)); exact HO134.out) (Kd.R_base ho0) hb); have n5_ := Aside0.mk (Kd.R_lower (Kd.R_new' (Kd.R_new' (Kd.R_new' (Kd.R_new' (Kd.R_new' ho0 (Kd.R_lt (by (with_reducible repeat (first | apply Kd.R_alloc | apply Kd.R_drewN | apply Kd.R_drew)); exact HO_3.out))) (Kd.R_lt (by (with_reducible repeat (first | apply Kd.R_alloc | apply Kd.R_drewN | apply Kd.R_drew)); exact HO_4.out))) (Kd.R_lt (by (with_reducible repeat (first | apply Kd.R_alloc | apply Kd.R_drewN | apply Kd.R_drew)); exact HO127.out))) (Kd.R_lt (by (with_reducible repeat (first | apply Kd.R_alloc | apply Kd.R_drewN | apply Kd.R_drew)); exact HO131.out))) (Kd.R_lt (by (with_reducible repeat (first | apply Kd.R_alloc | apply Kd.R_drewN | apply Kd.R_drew)); exact HO134.out))) (below_size (by repeat (first | (with_reducible first | exact HB.out | apply below_alloc | apply pw_below_drewN | apply below_drew1) | exact HB.out)))); have n6_ := Aside0.mk (below_step (by repeat (first | (with_reducible first | exact HB.out | apply below_alloc | apply pw_below_drewN | apply below_drew1) | exact HB.out)) hb); clear HO_3; clear HO_4; clear HO127; clear HO131; clear HO134; clear HB; have HO_3 := n0_; have HO_4 := n1_; have HO127 := n2_; have HO131 := n3_; have HO134 := n4_; have HO139 := n5_; have HB := n6_; clear n0_ n1_ n2_ n3_ n4_ n5_ n6_; (try clear hb); (try clear hb2); (try clear hk); (try clear hi); (try clear ho0)))
        (try simp only [Act.put, List.setIfInBounds_toArray, List.set_cons_zero, List.set_cons_succ])
        go_cut [88] (fun v88 wc => ∃ (kq : Nat) (x88_30 : Bool), v88 = .bool x88_30 ∧ Aside0 (laws_FnStreams.j1 kq t101 x4_6 t125 t128 t129 x88_30 = some r) ∧ Aside0 (kq ≤ kj6) ∧ Aside0 (Kd.R (Kd.int .i64) 3 wc w.heap.size (fun k_ => some k_ ≠ ((.slice Ao33 x4_6.length co33) : Value).ownBlock ∧ some k_ ≠ (v126 : Value).ownBlock ∧ some k_ ≠ (v130 : Value).ownBlock) (.slice Ao32 t101.length co32) t101) ∧ Aside0 (Kd.R (Kd.int .i64) 3 wc w.heap.size (fun k_ => some k_ ≠ ((.slice Ao32 t101.length co32) : Value).ownBlock ∧ some k_ ≠ (v126 : Value).ownBlock ∧ some k_ ≠ (v130 : Value).ownBlock) (.slice Ao33 x4_6.length co33) x4_6) ∧ Aside0 (Kd.R (Kd.int .i64) 3 wc w.heap.size (fun k_ => some k_ ≠ ((.slice Ao32 t101.length co32) : Value).ownBlock ∧ some k_ ≠ ((.slice Ao33 x4_6.length co33) : Value).ownBlock ∧ some k_ ≠ (v130 : Value).ownBlock) v126 t125) ∧ Aside0 (Kd.R (Kd.int .i64) 3 wc w.heap.size (fun k_ => some k_ ≠ ((.slice Ao32 t101.length co32) : Value).ownBlock ∧ some k_ ≠ ((.slice Ao33 x4_6.length co33) : Value).ownBlock ∧ some k_ ≠ (v126 : Value).ownBlock) v130 t128) ∧ Aside0 (Below w.heap.size w wc))
        case first =>
          have H := HC31.out
          clear HC31
          replace H := Option.bind_eq_some_iff.mp H
          obtain ⟨t140, A390, H⟩ := H
          replace H : (if t140 = true then ((impl_IsPrefix_c.f t125 x4_6).bind fun t141 => (if t141 = true then ((impl_MeetStreams_c.f x4_6 t101).bind fun t142 => ((laws_ints_c.f t125 t142).bind fun t145 => (if t145 = true then (if t135 = true then (if t137 = true then ((laws_ints_c.f t136 x4_6).bind fun t146 => (laws_FnStreams.j1 kj6 t101 x4_6 t125 t128 t129 (!t146))) else (laws_FnStreams.j1 kj6 t101 x4_6 t125 t128 t129 true)) else (laws_FnStreams.j1 kj6 t101 x4_6 t125 t128 t129 true)) else (laws_FnStreams.j1 kj6 t101 x4_6 t125 t128 t129 true)))) else (laws_FnStreams.j1 kj6 t101 x4_6 t125 t128 t129 true))) else (laws_FnStreams.j1 kj6 t101 x4_6 t125 t128 t129 true)) = some r := H
          have A39 := Aside0.mk A390
          clear A390
          by_cases c40 : t140 = true
          · subst c40
            have H1 : ((impl_IsPrefix_c.f t125 x4_6).bind fun t141 => (if t141 = true then ((impl_MeetStreams_c.f x4_6 t101).bind fun t142 => ((laws_ints_c.f t125 t142).bind fun t145 => (if t145 = true then (if t135 = true then (if t137 = true then ((laws_ints_c.f t136 x4_6).bind fun t146 => (laws_FnStreams.j1 kj6 t101 x4_6 t125 t128 t129 (!t146))) else (laws_FnStreams.j1 kj6 t101 x4_6 t125 t128 t129 true)) else (laws_FnStreams.j1 kj6 t101 x4_6 t125 t128 t129 true)) else (laws_FnStreams.j1 kj6 t101 x4_6 t125 t128 t129 true)))) else (laws_FnStreams.j1 kj6 t101 x4_6 t125 t128 t129 true))) = some r := by rw [if_pos rfl] at H; exact H
            clear H
            have H := H1
            clear H1
            replace H := Option.bind_eq_some_iff.mp H
            obtain ⟨t141, A410, H⟩ := H
            replace H : (if t141 = true then ((impl_MeetStreams_c.f x4_6 t101).bind fun t142 => ((laws_ints_c.f t125 t142).bind fun t145 => (if t145 = true then (if t135 = true then (if t137 = true then ((laws_ints_c.f t136 x4_6).bind fun t146 => (laws_FnStreams.j1 kj6 t101 x4_6 t125 t128 t129 (!t146))) else (laws_FnStreams.j1 kj6 t101 x4_6 t125 t128 t129 true)) else (laws_FnStreams.j1 kj6 t101 x4_6 t125 t128 t129 true)) else (laws_FnStreams.j1 kj6 t101 x4_6 t125 t128 t129 true)))) else (laws_FnStreams.j1 kj6 t101 x4_6 t125 t128 t129 true)) = some r := H
            have A41 := Aside0.mk A410
            clear A410
            by_cases c42 : t141 = true
            · subst c42
              have H1 : ((impl_MeetStreams_c.f x4_6 t101).bind fun t142 => ((laws_ints_c.f t125 t142).bind fun t145 => (if t145 = true then (if t135 = true then (if t137 = true then ((laws_ints_c.f t136 x4_6).bind fun t146 => (laws_FnStreams.j1 kj6 t101 x4_6 t125 t128 t129 (!t146))) else (laws_FnStreams.j1 kj6 t101 x4_6 t125 t128 t129 true)) else (laws_FnStreams.j1 kj6 t101 x4_6 t125 t128 t129 true)) else (laws_FnStreams.j1 kj6 t101 x4_6 t125 t128 t129 true)))) = some r := by rw [if_pos rfl] at H; exact H
              clear H
              have H := H1
              clear H1
              replace H := Option.bind_eq_some_iff.mp H
              obtain ⟨t142, A430, H⟩ := H
              replace H : ((laws_ints_c.f t125 t142).bind fun t145 => (if t145 = true then (if t135 = true then (if t137 = true then ((laws_ints_c.f t136 x4_6).bind fun t146 => (laws_FnStreams.j1 kj6 t101 x4_6 t125 t128 t129 (!t146))) else (laws_FnStreams.j1 kj6 t101 x4_6 t125 t128 t129 true)) else (laws_FnStreams.j1 kj6 t101 x4_6 t125 t128 t129 true)) else (laws_FnStreams.j1 kj6 t101 x4_6 t125 t128 t129 true))) = some r := H
              have A43 := Aside0.mk A430
              clear A430
              replace H := Option.bind_eq_some_iff.mp H
              obtain ⟨t145, A440, H⟩ := H
              replace H : (if t145 = true then (if t135 = true then (if t137 = true then ((laws_ints_c.f t136 x4_6).bind fun t146 => (laws_FnStreams.j1 kj6 t101 x4_6 t125 t128 t129 (!t146))) else (laws_FnStreams.j1 kj6 t101 x4_6 t125 t128 t129 true)) else (laws_FnStreams.j1 kj6 t101 x4_6 t125 t128 t129 true)) else (laws_FnStreams.j1 kj6 t101 x4_6 t125 t128 t129 true)) = some r := H
              have A44 := Aside0.mk A440
              clear A440
              by_cases c45 : t145 = true
              · subst c45
                have H1 : (if t135 = true then (if t137 = true then ((laws_ints_c.f t136 x4_6).bind fun t146 => (laws_FnStreams.j1 kj6 t101 x4_6 t125 t128 t129 (!t146))) else (laws_FnStreams.j1 kj6 t101 x4_6 t125 t128 t129 true)) else (laws_FnStreams.j1 kj6 t101 x4_6 t125 t128 t129 true)) = some r := by rw [if_pos rfl] at H; exact H
                clear H
                have H := H1
                clear H1
                by_cases c46 : t135 = true
                · subst c46
                  have H1 : (if t137 = true then ((laws_ints_c.f t136 x4_6).bind fun t146 => (laws_FnStreams.j1 kj6 t101 x4_6 t125 t128 t129 (!t146))) else (laws_FnStreams.j1 kj6 t101 x4_6 t125 t128 t129 true)) = some r := by rw [if_pos rfl] at H; exact H
                  clear H
                  have H := H1
                  clear H1
                  by_cases c47 : t137 = true
                  · subst c47
                    have H1 : ((laws_ints_c.f t136 x4_6).bind fun t146 => (laws_FnStreams.j1 kj6 t101 x4_6 t125 t128 t129 (!t146))) = some r := by rw [if_pos rfl] at H; exact H
                    clear H
                    have H := H1
                    clear H1
                    replace H := Option.bind_eq_some_iff.mp H
                    obtain ⟨t146, A480, H⟩ := H
                    replace H : (laws_FnStreams.j1 kj6 t101 x4_6 t125 t128 t129 (!t146)) = some r := H
                    have A48 := Aside0.mk A480
                    clear A480
                    have H' := Aside0.mk H
                    clear H
                    obtain ⟨Ao49, co49, eo49⟩ := Kd.R_slice HO127.out
                    subst eo49
                    go_wp2_with (first | ((with_reducible refine gate_callee (f := 39) rfl ?_); refine goesL_ (some 59) rfl rfl Try.func39 (by kernel_rfl) rfl #[.slice Ao49 t125.length co49, .slice Ao32 t101.length co32] rfl (by (try simp only [List.map_toArray, List.map_cons, List.map_nil]); first | done | rfl | (simp only [List.length_drop, List.length_take]; rfl)) ?_; (with_reducible refine (impl_IsPrefix_c.calls _ _ t125 _ _ t101 true _ ?side1 ?side2 ?side3 ?side4 A39.out).mono ?_); (case side1 => repeat (first | exact (Kd.R_reads' HO127.out).2.2 | (with_reducible refine Kd.C_alloc ?_ _) | (with_reducible refine Kd.C_drewN ?_ _) | (with_reducible refine Kd.C_drew ?_))); (case side2 => exact (Kd.R_reads' HO127.out).2.1); (case side3 => repeat (first | exact (Kd.R_reads' HO_3.out).2.2 | (with_reducible refine Kd.C_alloc ?_ _) | (with_reducible refine Kd.C_drewN ?_ _) | (with_reducible refine Kd.C_drew ?_))); (case side4 => exact (Kd.R_reads' HO_3.out).2.1); rintro e w' ⟨rfl, ⟨nd, rfl⟩⟩; refine ⟨_, rfl, ?_⟩) | (go_at_call 39; (with_reducible refine (impl_IsPrefix_c.calls _ _ t125 _ _ x4_6 true _ ?side1 ?side2 ?side3 ?side4 A41.out).mono ?_); (case side1 => repeat (first | exact (Kd.R_reads' HO127.out).2.2 | (with_reducible refine Kd.C_alloc ?_ _) | (with_reducible refine Kd.C_drewN ?_ _) | (with_reducible refine Kd.C_drew ?_))); (case side2 => exact (Kd.R_reads' HO127.out).2.1); (case side3 => repeat (first | exact (Kd.R_reads' HO_4.out).2.2 | (with_reducible refine Kd.C_alloc ?_ _) | (with_reducible refine Kd.C_drewN ?_ _) | (with_reducible refine Kd.C_drew ?_))); (case side4 => exact (Kd.R_reads' HO_4.out).2.1); rintro e w' ⟨rfl, ⟨nd, rfl⟩⟩) | (go_at_call 41; (with_reducible refine (impl_MeetStreams_c.calls _ _ x4_6 _ _ t101 t142 _ ?side1 ?side2 ?side3 ?side4 A43.out).mono ?_); (case side1 => repeat (first | exact (Kd.R_reads' HO_4.out).2.2 | (with_reducible refine Kd.C_alloc ?_ _) | (with_reducible refine Kd.C_drewN ?_ _) | (with_reducible refine Kd.C_drew ?_))); (case side2 => exact (Kd.R_reads' HO_4.out).2.1); (case side3 => repeat (first | exact (Kd.R_reads' HO_3.out).2.2 | (with_reducible refine Kd.C_alloc ?_ _) | (with_reducible refine Kd.C_drewN ?_ _) | (with_reducible refine Kd.C_drew ?_))); (case side4 => exact (Kd.R_reads' HO_3.out).2.1); rintro e w50 ⟨v143, rfl, ho0, hb⟩; have n0_ := Aside0.mk (Kd.R_elder' (by (with_reducible repeat (first | apply Kd.R_alloc | apply Kd.R_drewN | apply Kd.R_drew)); exact HO_3.out) (Kd.R_base ho0) hb); have n1_ := Aside0.mk (Kd.R_elder' (by (with_reducible repeat (first | apply Kd.R_alloc | apply Kd.R_drewN | apply Kd.R_drew)); exact HO_4.out) (Kd.R_base ho0) hb); have n2_ := Aside0.mk (Kd.R_elder' (by (with_reducible repeat (first | apply Kd.R_alloc | apply Kd.R_drewN | apply Kd.R_drew)); exact HO127.out) (Kd.R_base ho0) hb); have n3_ := Aside0.mk (Kd.R_elder' (by (with_reducible repeat (first | apply Kd.R_alloc | apply Kd.R_drewN | apply Kd.R_drew)); exact HO131.out) (Kd.R_base ho0) hb); have n4_ := Aside0.mk (Kd.R_elder' (by (with_reducible repeat (first | apply Kd.R_alloc | apply Kd.R_drewN | apply Kd.R_drew)); exact HO134.out) (Kd.R_base ho0) hb); have n5_ := Aside0.mk (Kd.R_elder' (by (with_reducible repeat (first | apply Kd.R_alloc | apply Kd.R_drewN | apply Kd.R_drew)); exact HO139.out) (Kd.R_base ho0) hb); have n6_ := Aside0.mk (Kd.R_lower (Kd.R_new' (Kd.R_new' (Kd.R_new' (Kd.R_new' (Kd.R_new' (Kd.R_new' ho0 (Kd.R_lt (by (with_reducible repeat (first | apply Kd.R_alloc | apply Kd.R_drewN | apply Kd.R_drew)); exact HO_3.out))) (Kd.R_lt (by (with_reducible repeat (first | apply Kd.R_alloc | apply Kd.R_drewN | apply Kd.R_drew)); exact HO_4.out))) (Kd.R_lt (by (with_reducible repeat (first | apply Kd.R_alloc | apply Kd.R_drewN | apply Kd.R_drew)); exact HO127.out))) (Kd.R_lt (by (with_reducible repeat (first | apply Kd.R_alloc | apply Kd.R_drewN | apply Kd.R_drew)); exact HO131.out))) (Kd.R_lt (by (with_reducible repeat (first | apply Kd.R_alloc | apply Kd.R_drewN | apply Kd.R_drew)); exact HO134.out))) (Kd.R_lt (by (with_reducible repeat (first | apply Kd.R_alloc | apply Kd.R_drewN | apply Kd.R_drew)); exact HO139.out))) (below_size (by repeat (first | (with_reducible first | exact HB.out | apply below_alloc | apply pw_below_drewN | apply below_drew1) | exact HB.out)))); have n7_ := Aside0.mk (below_step (by repeat (first | (with_reducible first | exact HB.out | apply below_alloc | apply pw_below_drewN | apply below_drew1) | exact HB.out)) hb); clear HO_3; clear HO_4; clear HO127; clear HO131; clear HO134; clear HO139; clear HB; have HO_3 := n0_; have HO_4 := n1_; have HO127 := n2_; have HO131 := n3_; have HO134 := n4_; have HO139 := n5_; have HO144 := n6_; have HB := n7_; clear n0_ n1_ n2_ n3_ n4_ n5_ n6_ n7_; (try clear hb); (try clear hb2); (try clear hk); (try clear hi); (try clear ho0); obtain ⟨Ao51, co51, eo51⟩ := Kd.R_slice HO144.out; subst eo51) | (go_at_call 73; (with_reducible refine (laws_ints_c.calls _ _ t125 _ _ t142 true _ ?side1 ?side2 ?side3 ?side4 A44.out).mono ?_); (case side1 => repeat (first | exact (Kd.R_reads' HO127.out).2.2 | (with_reducible refine Kd.C_alloc ?_ _) | (with_reducible refine Kd.C_drewN ?_ _) | (with_reducible refine Kd.C_drew ?_))); (case side2 => exact (Kd.R_reads' HO127.out).2.1); (case side3 => repeat (first | exact (Kd.R_reads' HO144.out).2.2 | (with_reducible refine Kd.C_alloc ?_ _) | (with_reducible refine Kd.C_drewN ?_ _) | (with_reducible refine Kd.C_drew ?_))); (case side4 => exact (Kd.R_reads' HO144.out).2.1); rintro e w' ⟨rfl, ⟨nd, rfl⟩⟩; obtain ⟨Ao52, co52, eo52⟩ := Kd.R_slice HO139.out; subst eo52) | (go_at_call 73; (with_reducible refine (laws_ints_c.calls _ _ t136 _ _ x4_6 t146 _ ?side1 ?side2 ?side3 ?side4 A48.out).mono ?_); (case side1 => repeat (first | exact (Kd.R_reads' HO139.out).2.2 | (with_reducible refine Kd.C_alloc ?_ _) | (with_reducible refine Kd.C_drewN ?_ _) | (with_reducible refine Kd.C_drew ?_))); (case side2 => exact (Kd.R_reads' HO139.out).2.1); (case side3 => repeat (first | exact (Kd.R_reads' HO_4.out).2.2 | (with_reducible refine Kd.C_alloc ?_ _) | (with_reducible refine Kd.C_drewN ?_ _) | (with_reducible refine Kd.C_drew ?_))); (case side4 => exact (Kd.R_reads' HO_4.out).2.1); rintro e w' ⟨rfl, ⟨nd, rfl⟩⟩))
                    all_goals (go_meet; (case rel => exact ⟨_, (!t146), (by first | rfl | (simp; done) | (simp [*]; done)), H', ⟨by have := HJ6.out; first | omega | exact Nat.le_refl _⟩, ⟨by (with_reducible repeat (first | apply Kd.R_alloc | apply Kd.R_drewN | apply Kd.R_drew)); exact Kd.R_mono HO_3.out (fun _ hk => ⟨hk.1.1.1.1.1, ⟨hk.1.1.1.1.2, hk.1.1.1.2⟩⟩)⟩, ⟨by (with_reducible repeat (first | apply Kd.R_alloc | apply Kd.R_drewN | apply Kd.R_drew)); exact Kd.R_mono HO_4.out (fun _ hk => ⟨hk.1.1.1.1.1, ⟨hk.1.1.1.1.2, hk.1.1.1.2⟩⟩)⟩, ⟨by (with_reducible repeat (first | apply Kd.R_alloc | apply Kd.R_drewN | apply Kd.R_drew)); exact Kd.R_mono HO127.out (fun _ hk => ⟨hk.1.1.1.1.1.2, ⟨hk.1.1.1.1.2, hk.1.1.1.2⟩⟩)⟩, ⟨by (with_reducible repeat (first | apply Kd.R_alloc | apply Kd.R_drewN | apply Kd.R_drew)); exact Kd.R_mono HO131.out (fun _ hk => ⟨hk.1.1.1.1.1.2, ⟨hk.1.1.1.1.2, hk.1.1.1.2⟩⟩)⟩, ⟨by repeat (first | (with_reducible first | exact HB.out | apply below_alloc | apply pw_below_drewN | apply below_drew1) | exact HB.out)⟩⟩))
                  · replace c47 := Bool.eq_false_iff.mpr c47
                    subst c47
                    have H1 : (laws_FnStreams.j1 kj6 t101 x4_6 t125 t128 t129 true) = some r := by rw [if_neg (show ¬ (false = true) by decide)] at H; exact H
                    clear H
                    have H := H1
                    clear H1
                    have H' := Aside0.mk H
                    clear H
                    obtain ⟨Ao53, co53, eo53⟩ := Kd.R_slice HO127.out
                    subst eo53
                    go_wp2_with (first | ((with_reducible refine gate_callee (f := 39) rfl ?_); refine goesL_ (some 59) rfl rfl Try.func39 (by kernel_rfl) rfl #[.slice Ao53 t125.length co53, .slice Ao32 t101.length co32] rfl (by (try simp only [List.map_toArray, List.map_cons, List.map_nil]); first | done | rfl | (simp only [List.length_drop, List.length_take]; rfl)) ?_; (with_reducible refine (impl_IsPrefix_c.calls _ _ t125 _ _ t101 true _ ?side1 ?side2 ?side3 ?side4 A39.out).mono ?_); (case side1 => repeat (first | exact (Kd.R_reads' HO127.out).2.2 | (with_reducible refine Kd.C_alloc ?_ _) | (with_reducible refine Kd.C_drewN ?_ _) | (with_reducible refine Kd.C_drew ?_))); (case side2 => exact (Kd.R_reads' HO127.out).2.1); (case side3 => repeat (first | exact (Kd.R_reads' HO_3.out).2.2 | (with_reducible refine Kd.C_alloc ?_ _) | (with_reducible refine Kd.C_drewN ?_ _) | (with_reducible refine Kd.C_drew ?_))); (case side4 => exact (Kd.R_reads' HO_3.out).2.1); rintro e w' ⟨rfl, ⟨nd, rfl⟩⟩; refine ⟨_, rfl, ?_⟩) | (go_at_call 39; (with_reducible refine (impl_IsPrefix_c.calls _ _ t125 _ _ x4_6 true _ ?side1 ?side2 ?side3 ?side4 A41.out).mono ?_); (case side1 => repeat (first | exact (Kd.R_reads' HO127.out).2.2 | (with_reducible refine Kd.C_alloc ?_ _) | (with_reducible refine Kd.C_drewN ?_ _) | (with_reducible refine Kd.C_drew ?_))); (case side2 => exact (Kd.R_reads' HO127.out).2.1); (case side3 => repeat (first | exact (Kd.R_reads' HO_4.out).2.2 | (with_reducible refine Kd.C_alloc ?_ _) | (with_reducible refine Kd.C_drewN ?_ _) | (with_reducible refine Kd.C_drew ?_))); (case side4 => exact (Kd.R_reads' HO_4.out).2.1); rintro e w' ⟨rfl, ⟨nd, rfl⟩⟩) | (go_at_call 41; (with_reducible refine (impl_MeetStreams_c.calls _ _ x4_6 _ _ t101 t142 _ ?side1 ?side2 ?side3 ?side4 A43.out).mono ?_); (case side1 => repeat (first | exact (Kd.R_reads' HO_4.out).2.2 | (with_reducible refine Kd.C_alloc ?_ _) | (with_reducible refine Kd.C_drewN ?_ _) | (with_reducible refine Kd.C_drew ?_))); (case side2 => exact (Kd.R_reads' HO_4.out).2.1); (case side3 => repeat (first | exact (Kd.R_reads' HO_3.out).2.2 | (with_reducible refine Kd.C_alloc ?_ _) | (with_reducible refine Kd.C_drewN ?_ _) | (with_reducible refine Kd.C_drew ?_))); (case side4 => exact (Kd.R_reads' HO_3.out).2.1); rintro e w54 ⟨v143, rfl, ho0, hb⟩; have n0_ := Aside0.mk (Kd.R_elder' (by (with_reducible repeat (first | apply Kd.R_alloc | apply Kd.R_drewN | apply Kd.R_drew)); exact HO_3.out) (Kd.R_base ho0) hb); have n1_ := Aside0.mk (Kd.R_elder' (by (with_reducible repeat (first | apply Kd.R_alloc | apply Kd.R_drewN | apply Kd.R_drew)); exact HO_4.out) (Kd.R_base ho0) hb); have n2_ := Aside0.mk (Kd.R_elder' (by (with_reducible repeat (first | apply Kd.R_alloc | apply Kd.R_drewN | apply Kd.R_drew)); exact HO127.out) (Kd.R_base ho0) hb); have n3_ := Aside0.mk (Kd.R_elder' (by (with_reducible repeat (first | apply Kd.R_alloc | apply Kd.R_drewN | apply Kd.R_drew)); exact HO131.out) (Kd.R_base ho0) hb); have n4_ := Aside0.mk (Kd.R_elder' (by (with_reducible repeat (first | apply Kd.R_alloc | apply Kd.R_drewN | apply Kd.R_drew)); exact HO134.out) (Kd.R_base ho0) hb); have n5_ := Aside0.mk (Kd.R_elder' (by (with_reducible repeat (first | apply Kd.R_alloc | apply Kd.R_drewN | apply Kd.R_drew)); exact HO139.out) (Kd.R_base ho0) hb); have n6_ := Aside0.mk (Kd.R_lower (Kd.R_new' (Kd.R_new' (Kd.R_new' (Kd.R_new' (Kd.R_new' (Kd.R_new' ho0 (Kd.R_lt (by (with_reducible repeat (first | apply Kd.R_alloc | apply Kd.R_drewN | apply Kd.R_drew)); exact HO_3.out))) (Kd.R_lt (by (with_reducible repeat (first | apply Kd.R_alloc | apply Kd.R_drewN | apply Kd.R_drew)); exact HO_4.out))) (Kd.R_lt (by (with_reducible repeat (first | apply Kd.R_alloc | apply Kd.R_drewN | apply Kd.R_drew)); exact HO127.out))) (Kd.R_lt (by (with_reducible repeat (first | apply Kd.R_alloc | apply Kd.R_drewN | apply Kd.R_drew)); exact HO131.out))) (Kd.R_lt (by (with_reducible repeat (first | apply Kd.R_alloc | apply Kd.R_drewN | apply Kd.R_drew)); exact HO134.out))) (Kd.R_lt (by (with_reducible repeat (first | apply Kd.R_alloc | apply Kd.R_drewN | apply Kd.R_drew)); exact HO139.out))) (below_size (by repeat (first | (with_reducible first | exact HB.out | apply below_alloc | apply pw_below_drewN | apply below_drew1) | exact HB.out)))); have n7_ := Aside0.mk (below_step (by repeat (first | (with_reducible first | exact HB.out | apply below_alloc | apply pw_below_drewN | apply below_drew1) | exact HB.out)) hb); clear HO_3; clear HO_4; clear HO127; clear HO131; clear HO134; clear HO139; clear HB; have HO_3 := n0_; have HO_4 := n1_; have HO127 := n2_; have HO131 := n3_; have HO134 := n4_; have HO139 := n5_; have HO144 := n6_; have HB := n7_; clear n0_ n1_ n2_ n3_ n4_ n5_ n6_ n7_; (try clear hb); (try clear hb2); (try clear hk); (try clear hi); (try clear ho0); obtain ⟨Ao55, co55, eo55⟩ := Kd.R_slice HO144.out; subst eo55) | (go_at_call 73; (with_reducible refine (laws_ints_c.calls _ _ t125 _ _ t142 true _ ?side1 ?side2 ?side3 ?side4 A44.out).mono ?_); (case side1 => repeat (first | exact (Kd.R_reads' HO127.out).2.2 | (with_reducible refine Kd.C_alloc ?_ _) | (with_reducible refine Kd.C_drewN ?_ _) | (with_reducible refine Kd.C_drew ?_))); (case side2 => exact (Kd.R_reads' HO127.out).2.1); (case side3 => repeat (first | exact (Kd.R_reads' HO144.out).2.2 | (with_reducible refine Kd.C_alloc ?_ _) | (with_reducible refine Kd.C_drewN ?_ _) | (with_reducible refine Kd.C_drew ?_))); (case side4 => exact (Kd.R_reads' HO144.out).2.1); rintro e w' ⟨rfl, ⟨nd, rfl⟩⟩))
                    all_goals (go_meet; (case rel => exact ⟨_, (true), (by first | rfl | (simp; done) | (simp [*]; done)), H', ⟨by have := HJ6.out; first | omega | exact Nat.le_refl _⟩, ⟨by (with_reducible repeat (first | apply Kd.R_alloc | apply Kd.R_drewN | apply Kd.R_drew)); exact Kd.R_mono HO_3.out (fun _ hk => ⟨hk.1.1.1.1.1, ⟨hk.1.1.1.1.2, hk.1.1.1.2⟩⟩)⟩, ⟨by (with_reducible repeat (first | apply Kd.R_alloc | apply Kd.R_drewN | apply Kd.R_drew)); exact Kd.R_mono HO_4.out (fun _ hk => ⟨hk.1.1.1.1.1, ⟨hk.1.1.1.1.2, hk.1.1.1.2⟩⟩)⟩, ⟨by (with_reducible repeat (first | apply Kd.R_alloc | apply Kd.R_drewN | apply Kd.R_drew)); exact Kd.R_mono HO127.out (fun _ hk => ⟨hk.1.1.1.1.1.2, ⟨hk.1.1.1.1.2, hk.1.1.1.2⟩⟩)⟩, ⟨by (with_reducible repeat (first | apply Kd.R_alloc | apply Kd.R_drewN | apply Kd.R_drew)); exact Kd.R_mono HO131.out (fun _ hk => ⟨hk.1.1.1.1.1.2, ⟨hk.1.1.1.1.2, hk.1.1.1.2⟩⟩)⟩, ⟨by repeat (first | (with_reducible first | exact HB.out | apply below_alloc | apply pw_below_drewN | apply below_drew1) | exact HB.out)⟩⟩))
                · replace c46 := Bool.eq_false_iff.mpr c46
                  subst c46
                  have H1 : (laws_FnStreams.j1 kj6 t101 x4_6 t125 t128 t129 true) = some r := by rw [if_neg (show ¬ (false = true) by decide)] at H; exact H
                  clear H
                  have H := H1
                  clear H1
                  have H' := Aside0.mk H
                  clear H
                  obtain ⟨Ao56, co56, eo56⟩ := Kd.R_slice HO127.out
                  subst eo56
                  go_wp2_with (first | ((with_reducible refine gate_callee (f := 39) rfl ?_); refine goesL_ (some 59) rfl rfl Try.func39 (by kernel_rfl) rfl #[.slice Ao56 t125.length co56, .slice Ao32 t101.length co32] rfl (by (try simp only [List.map_toArray, List.map_cons, List.map_nil]); first | done | rfl | (simp only [List.length_drop, List.length_take]; rfl)) ?_; (with_reducible refine (impl_IsPrefix_c.calls _ _ t125 _ _ t101 true _ ?side1 ?side2 ?side3 ?side4 A39.out).mono ?_); (case side1 => repeat (first | exact (Kd.R_reads' HO127.out).2.2 | (with_reducible refine Kd.C_alloc ?_ _) | (with_reducible refine Kd.C_drewN ?_ _) | (with_reducible refine Kd.C_drew ?_))); (case side2 => exact (Kd.R_reads' HO127.out).2.1); (case side3 => repeat (first | exact (Kd.R_reads' HO_3.out).2.2 | (with_reducible refine Kd.C_alloc ?_ _) | (with_reducible refine Kd.C_drewN ?_ _) | (with_reducible refine Kd.C_drew ?_))); (case side4 => exact (Kd.R_reads' HO_3.out).2.1); rintro e w' ⟨rfl, ⟨nd, rfl⟩⟩; refine ⟨_, rfl, ?_⟩) | (go_at_call 39; (with_reducible refine (impl_IsPrefix_c.calls _ _ t125 _ _ x4_6 true _ ?side1 ?side2 ?side3 ?side4 A41.out).mono ?_); (case side1 => repeat (first | exact (Kd.R_reads' HO127.out).2.2 | (with_reducible refine Kd.C_alloc ?_ _) | (with_reducible refine Kd.C_drewN ?_ _) | (with_reducible refine Kd.C_drew ?_))); (case side2 => exact (Kd.R_reads' HO127.out).2.1); (case side3 => repeat (first | exact (Kd.R_reads' HO_4.out).2.2 | (with_reducible refine Kd.C_alloc ?_ _) | (with_reducible refine Kd.C_drewN ?_ _) | (with_reducible refine Kd.C_drew ?_))); (case side4 => exact (Kd.R_reads' HO_4.out).2.1); rintro e w' ⟨rfl, ⟨nd, rfl⟩⟩) | (go_at_call 41; (with_reducible refine (impl_MeetStreams_c.calls _ _ x4_6 _ _ t101 t142 _ ?side1 ?side2 ?side3 ?side4 A43.out).mono ?_); (case side1 => repeat (first | exact (Kd.R_reads' HO_4.out).2.2 | (with_reducible refine Kd.C_alloc ?_ _) | (with_reducible refine Kd.C_drewN ?_ _) | (with_reducible refine Kd.C_drew ?_))); (case side2 => exact (Kd.R_reads' HO_4.out).2.1); (case side3 => repeat (first | exact (Kd.R_reads' HO_3.out).2.2 | (with_reducible refine Kd.C_alloc ?_ _) | (with_reducible refine Kd.C_drewN ?_ _) | (with_reducible refine Kd.C_drew ?_))); (case side4 => exact (Kd.R_reads' HO_3.out).2.1); rintro e w57 ⟨v143, rfl, ho0, hb⟩; have n0_ := Aside0.mk (Kd.R_elder' (by (with_reducible repeat (first | apply Kd.R_alloc | apply Kd.R_drewN | apply Kd.R_drew)); exact HO_3.out) (Kd.R_base ho0) hb); have n1_ := Aside0.mk (Kd.R_elder' (by (with_reducible repeat (first | apply Kd.R_alloc | apply Kd.R_drewN | apply Kd.R_drew)); exact HO_4.out) (Kd.R_base ho0) hb); have n2_ := Aside0.mk (Kd.R_elder' (by (with_reducible repeat (first | apply Kd.R_alloc | apply Kd.R_drewN | apply Kd.R_drew)); exact HO127.out) (Kd.R_base ho0) hb); have n3_ := Aside0.mk (Kd.R_elder' (by (with_reducible repeat (first | apply Kd.R_alloc | apply Kd.R_drewN | apply Kd.R_drew)); exact HO131.out) (Kd.R_base ho0) hb); have n4_ := Aside0.mk (Kd.R_elder' (by (with_reducible repeat (first | apply Kd.R_alloc | apply Kd.R_drewN | apply Kd.R_drew)); exact HO134.out) (Kd.R_base ho0) hb); have n5_ := Aside0.mk (Kd.R_elder' (by (with_reducible repeat (first | apply Kd.R_alloc | apply Kd.R_drewN | apply Kd.R_drew)); exact HO139.out) (Kd.R_base ho0) hb); have n6_ := Aside0.mk (Kd.R_lower (Kd.R_new' (Kd.R_new' (Kd.R_new' (Kd.R_new' (Kd.R_new' (Kd.R_new' ho0 (Kd.R_lt (by (with_reducible repeat (first | apply Kd.R_alloc | apply Kd.R_drewN | apply Kd.R_drew)); exact HO_3.out))) (Kd.R_lt (by (with_reducible repeat (first | apply Kd.R_alloc | apply Kd.R_drewN | apply Kd.R_drew)); exact HO_4.out))) (Kd.R_lt (by (with_reducible repeat (first | apply Kd.R_alloc | apply Kd.R_drewN | apply Kd.R_drew)); exact HO127.out))) (Kd.R_lt (by (with_reducible repeat (first | apply Kd.R_alloc | apply Kd.R_drewN | apply Kd.R_drew)); exact HO131.out))) (Kd.R_lt (by (with_reducible repeat (first | apply Kd.R_alloc | apply Kd.R_drewN | apply Kd.R_drew)); exact HO134.out))) (Kd.R_lt (by (with_reducible repeat (first | apply Kd.R_alloc | apply Kd.R_drewN | apply Kd.R_drew)); exact HO139.out))) (below_size (by repeat (first | (with_reducible first | exact HB.out | apply below_alloc | apply pw_below_drewN | apply below_drew1) | exact HB.out)))); have n7_ := Aside0.mk (below_step (by repeat (first | (with_reducible first | exact HB.out | apply below_alloc | apply pw_below_drewN | apply below_drew1) | exact HB.out)) hb); clear HO_3; clear HO_4; clear HO127; clear HO131; clear HO134; clear HO139; clear HB; have HO_3 := n0_; have HO_4 := n1_; have HO127 := n2_; have HO131 := n3_; have HO134 := n4_; have HO139 := n5_; have HO144 := n6_; have HB := n7_; clear n0_ n1_ n2_ n3_ n4_ n5_ n6_ n7_; (try clear hb); (try clear hb2); (try clear hk); (try clear hi); (try clear ho0); obtain ⟨Ao58, co58, eo58⟩ := Kd.R_slice HO144.out; subst eo58) | (go_at_call 73; (with_reducible refine (laws_ints_c.calls _ _ t125 _ _ t142 true _ ?side1 ?side2 ?side3 ?side4 A44.out).mono ?_); (case side1 => repeat (first | exact (Kd.R_reads' HO127.out).2.2 | (with_reducible refine Kd.C_alloc ?_ _) | (with_reducible refine Kd.C_drewN ?_ _) | (with_reducible refine Kd.C_drew ?_))); (case side2 => exact (Kd.R_reads' HO127.out).2.1); (case side3 => repeat (first | exact (Kd.R_reads' HO144.out).2.2 | (with_reducible refine Kd.C_alloc ?_ _) | (with_reducible refine Kd.C_drewN ?_ _) | (with_reducible refine Kd.C_drew ?_))); (case side4 => exact (Kd.R_reads' HO144.out).2.1); rintro e w' ⟨rfl, ⟨nd, rfl⟩⟩))
                  all_goals (go_meet; (case rel => exact ⟨_, (true), (by first | rfl | (simp; done) | (simp [*]; done)), H', ⟨by have := HJ6.out; first | omega | exact Nat.le_refl _⟩, ⟨by (with_reducible repeat (first | apply Kd.R_alloc | apply Kd.R_drewN | apply Kd.R_drew)); exact Kd.R_mono HO_3.out (fun _ hk => ⟨hk.1.1.1.1.1, ⟨hk.1.1.1.1.2, hk.1.1.1.2⟩⟩)⟩, ⟨by (with_reducible repeat (first | apply Kd.R_alloc | apply Kd.R_drewN | apply Kd.R_drew)); exact Kd.R_mono HO_4.out (fun _ hk => ⟨hk.1.1.1.1.1, ⟨hk.1.1.1.1.2, hk.1.1.1.2⟩⟩)⟩, ⟨by (with_reducible repeat (first | apply Kd.R_alloc | apply Kd.R_drewN | apply Kd.R_drew)); exact Kd.R_mono HO127.out (fun _ hk => ⟨hk.1.1.1.1.1.2, ⟨hk.1.1.1.1.2, hk.1.1.1.2⟩⟩)⟩, ⟨by (with_reducible repeat (first | apply Kd.R_alloc | apply Kd.R_drewN | apply Kd.R_drew)); exact Kd.R_mono HO131.out (fun _ hk => ⟨hk.1.1.1.1.1.2, ⟨hk.1.1.1.1.2, hk.1.1.1.2⟩⟩)⟩, ⟨by repeat (first | (with_reducible first | exact HB.out | apply below_alloc | apply pw_below_drewN | apply below_drew1) | exact HB.out)⟩⟩))
              · replace c45 := Bool.eq_false_iff.mpr c45
                subst c45
                have H1 : (laws_FnStreams.j1 kj6 t101 x4_6 t125 t128 t129 true) = some r := by rw [if_neg (show ¬ (false = true) by decide)] at H; exact H
                clear H
                have H := H1
                clear H1
                have H' := Aside0.mk H
                clear H
                obtain ⟨Ao59, co59, eo59⟩ := Kd.R_slice HO127.out
                subst eo59
                go_wp2_with (first | ((with_reducible refine gate_callee (f := 39) rfl ?_); refine goesL_ (some 59) rfl rfl Try.func39 (by kernel_rfl) rfl #[.slice Ao59 t125.length co59, .slice Ao32 t101.length co32] rfl (by (try simp only [List.map_toArray, List.map_cons, List.map_nil]); first | done | rfl | (simp only [List.length_drop, List.length_take]; rfl)) ?_; (with_reducible refine (impl_IsPrefix_c.calls _ _ t125 _ _ t101 true _ ?side1 ?side2 ?side3 ?side4 A39.out).mono ?_); (case side1 => repeat (first | exact (Kd.R_reads' HO127.out).2.2 | (with_reducible refine Kd.C_alloc ?_ _) | (with_reducible refine Kd.C_drewN ?_ _) | (with_reducible refine Kd.C_drew ?_))); (case side2 => exact (Kd.R_reads' HO127.out).2.1); (case side3 => repeat (first | exact (Kd.R_reads' HO_3.out).2.2 | (with_reducible refine Kd.C_alloc ?_ _) | (with_reducible refine Kd.C_drewN ?_ _) | (with_reducible refine Kd.C_drew ?_))); (case side4 => exact (Kd.R_reads' HO_3.out).2.1); rintro e w' ⟨rfl, ⟨nd, rfl⟩⟩; refine ⟨_, rfl, ?_⟩) | (go_at_call 39; (with_reducible refine (impl_IsPrefix_c.calls _ _ t125 _ _ x4_6 true _ ?side1 ?side2 ?side3 ?side4 A41.out).mono ?_); (case side1 => repeat (first | exact (Kd.R_reads' HO127.out).2.2 | (with_reducible refine Kd.C_alloc ?_ _) | (with_reducible refine Kd.C_drewN ?_ _) | (with_reducible refine Kd.C_drew ?_))); (case side2 => exact (Kd.R_reads' HO127.out).2.1); (case side3 => repeat (first | exact (Kd.R_reads' HO_4.out).2.2 | (with_reducible refine Kd.C_alloc ?_ _) | (with_reducible refine Kd.C_drewN ?_ _) | (with_reducible refine Kd.C_drew ?_))); (case side4 => exact (Kd.R_reads' HO_4.out).2.1); rintro e w' ⟨rfl, ⟨nd, rfl⟩⟩) | (go_at_call 41; (with_reducible refine (impl_MeetStreams_c.calls _ _ x4_6 _ _ t101 t142 _ ?side1 ?side2 ?side3 ?side4 A43.out).mono ?_); (case side1 => repeat (first | exact (Kd.R_reads' HO_4.out).2.2 | (with_reducible refine Kd.C_alloc ?_ _) | (with_reducible refine Kd.C_drewN ?_ _) | (with_reducible refine Kd.C_drew ?_))); (case side2 => exact (Kd.R_reads' HO_4.out).2.1); (case side3 => repeat (first | exact (Kd.R_reads' HO_3.out).2.2 | (with_reducible refine Kd.C_alloc ?_ _) | (with_reducible refine Kd.C_drewN ?_ _) | (with_reducible refine Kd.C_drew ?_))); (case side4 => exact (Kd.R_reads' HO_3.out).2.1); rintro e w60 ⟨v143, rfl, ho0, hb⟩; have n0_ := Aside0.mk (Kd.R_elder' (by (with_reducible repeat (first | apply Kd.R_alloc | apply Kd.R_drewN | apply Kd.R_drew)); exact HO_3.out) (Kd.R_base ho0) hb); have n1_ := Aside0.mk (Kd.R_elder' (by (with_reducible repeat (first | apply Kd.R_alloc | apply Kd.R_drewN | apply Kd.R_drew)); exact HO_4.out) (Kd.R_base ho0) hb); have n2_ := Aside0.mk (Kd.R_elder' (by (with_reducible repeat (first | apply Kd.R_alloc | apply Kd.R_drewN | apply Kd.R_drew)); exact HO127.out) (Kd.R_base ho0) hb); have n3_ := Aside0.mk (Kd.R_elder' (by (with_reducible repeat (first | apply Kd.R_alloc | apply Kd.R_drewN | apply Kd.R_drew)); exact HO131.out) (Kd.R_base ho0) hb); have n4_ := Aside0.mk (Kd.R_elder' (by (with_reducible repeat (first | apply Kd.R_alloc | apply Kd.R_drewN | apply Kd.R_drew)); exact HO134.out) (Kd.R_base ho0) hb); have n5_ := Aside0.mk (Kd.R_elder' (by (with_reducible repeat (first | apply Kd.R_alloc | apply Kd.R_drewN | apply Kd.R_drew)); exact HO139.out) (Kd.R_base ho0) hb); have n6_ := Aside0.mk (Kd.R_lower (Kd.R_new' (Kd.R_new' (Kd.R_new' (Kd.R_new' (Kd.R_new' (Kd.R_new' ho0 (Kd.R_lt (by (with_reducible repeat (first | apply Kd.R_alloc | apply Kd.R_drewN | apply Kd.R_drew)); exact HO_3.out))) (Kd.R_lt (by (with_reducible repeat (first | apply Kd.R_alloc | apply Kd.R_drewN | apply Kd.R_drew)); exact HO_4.out))) (Kd.R_lt (by (with_reducible repeat (first | apply Kd.R_alloc | apply Kd.R_drewN | apply Kd.R_drew)); exact HO127.out))) (Kd.R_lt (by (with_reducible repeat (first | apply Kd.R_alloc | apply Kd.R_drewN | apply Kd.R_drew)); exact HO131.out))) (Kd.R_lt (by (with_reducible repeat (first | apply Kd.R_alloc | apply Kd.R_drewN | apply Kd.R_drew)); exact HO134.out))) (Kd.R_lt (by (with_reducible repeat (first | apply Kd.R_alloc | apply Kd.R_drewN | apply Kd.R_drew)); exact HO139.out))) (below_size (by repeat (first | (with_reducible first | exact HB.out | apply below_alloc | apply pw_below_drewN | apply below_drew1) | exact HB.out)))); have n7_ := Aside0.mk (below_step (by repeat (first | (with_reducible first | exact HB.out | apply below_alloc | apply pw_below_drewN | apply below_drew1) | exact HB.out)) hb); clear HO_3; clear HO_4; clear HO127; clear HO131; clear HO134; clear HO139; clear HB; have HO_3 := n0_; have HO_4 := n1_; have HO127 := n2_; have HO131 := n3_; have HO134 := n4_; have HO139 := n5_; have HO144 := n6_; have HB := n7_; clear n0_ n1_ n2_ n3_ n4_ n5_ n6_ n7_; (try clear hb); (try clear hb2); (try clear hk); (try clear hi); (try clear ho0); obtain ⟨Ao61, co61, eo61⟩ := Kd.R_slice HO144.out; subst eo61) | (go_at_call 73; (with_reducible refine (laws_ints_c.calls _ _ t125 _ _ t142 false _ ?side1 ?side2 ?side3 ?side4 A44.out).mono ?_); (case side1 => repeat (first | exact (Kd.R_reads' HO127.out).2.2 | (with_reducible refine Kd.C_alloc ?_ _) | (with_reducible refine Kd.C_drewN ?_ _) | (with_reducible refine Kd.C_drew ?_))); (case side2 => exact (Kd.R_reads' HO127.out).2.1); (case side3 => repeat (first | exact (Kd.R_reads' HO144.out).2.2 | (with_reducible refine Kd.C_alloc ?_ _) | (with_reducible refine Kd.C_drewN ?_ _) | (with_reducible refine Kd.C_drew ?_))); (case side4 => exact (Kd.R_reads' HO144.out).2.1); rintro e w' ⟨rfl, ⟨nd, rfl⟩⟩))
                all_goals (go_meet; (case rel => exact ⟨_, (true), (by first | rfl | (simp; done) | (simp [*]; done)), H', ⟨by have := HJ6.out; first | omega | exact Nat.le_refl _⟩, ⟨by (with_reducible repeat (first | apply Kd.R_alloc | apply Kd.R_drewN | apply Kd.R_drew)); exact Kd.R_mono HO_3.out (fun _ hk => ⟨hk.1.1.1.1.1, ⟨hk.1.1.1.1.2, hk.1.1.1.2⟩⟩)⟩, ⟨by (with_reducible repeat (first | apply Kd.R_alloc | apply Kd.R_drewN | apply Kd.R_drew)); exact Kd.R_mono HO_4.out (fun _ hk => ⟨hk.1.1.1.1.1, ⟨hk.1.1.1.1.2, hk.1.1.1.2⟩⟩)⟩, ⟨by (with_reducible repeat (first | apply Kd.R_alloc | apply Kd.R_drewN | apply Kd.R_drew)); exact Kd.R_mono HO127.out (fun _ hk => ⟨hk.1.1.1.1.1.2, ⟨hk.1.1.1.1.2, hk.1.1.1.2⟩⟩)⟩, ⟨by (with_reducible repeat (first | apply Kd.R_alloc | apply Kd.R_drewN | apply Kd.R_drew)); exact Kd.R_mono HO131.out (fun _ hk => ⟨hk.1.1.1.1.1.2, ⟨hk.1.1.1.1.2, hk.1.1.1.2⟩⟩)⟩, ⟨by repeat (first | (with_reducible first | exact HB.out | apply below_alloc | apply pw_below_drewN | apply below_drew1) | exact HB.out)⟩⟩))
            · replace c42 := Bool.eq_false_iff.mpr c42
              subst c42
              have H1 : (laws_FnStreams.j1 kj6 t101 x4_6 t125 t128 t129 true) = some r := by rw [if_neg (show ¬ (false = true) by decide)] at H; exact H
              clear H
              have H := H1
              clear H1
              have H' := Aside0.mk H
              clear H
              obtain ⟨Ao62, co62, eo62⟩ := Kd.R_slice HO127.out
              subst eo62
              go_wp2_with (first | ((with_reducible refine gate_callee (f := 39) rfl ?_); refine goesL_ (some 59) rfl rfl Try.func39 (by kernel_rfl) rfl #[.slice Ao62 t125.length co62, .slice Ao32 t101.length co32] rfl (by (try simp only [List.map_toArray, List.map_cons, List.map_nil]); first | done | rfl | (simp only [List.length_drop, List.length_take]; rfl)) ?_; (with_reducible refine (impl_IsPrefix_c.calls _ _ t125 _ _ t101 true _ ?side1 ?side2 ?side3 ?side4 A39.out).mono ?_); (case side1 => repeat (first | exact (Kd.R_reads' HO127.out).2.2 | (with_reducible refine Kd.C_alloc ?_ _) | (with_reducible refine Kd.C_drewN ?_ _) | (with_reducible refine Kd.C_drew ?_))); (case side2 => exact (Kd.R_reads' HO127.out).2.1); (case side3 => repeat (first | exact (Kd.R_reads' HO_3.out).2.2 | (with_reducible refine Kd.C_alloc ?_ _) | (with_reducible refine Kd.C_drewN ?_ _) | (with_reducible refine Kd.C_drew ?_))); (case side4 => exact (Kd.R_reads' HO_3.out).2.1); rintro e w' ⟨rfl, ⟨nd, rfl⟩⟩; refine ⟨_, rfl, ?_⟩) | (go_at_call 39; (with_reducible refine (impl_IsPrefix_c.calls _ _ t125 _ _ x4_6 false _ ?side1 ?side2 ?side3 ?side4 A41.out).mono ?_); (case side1 => repeat (first | exact (Kd.R_reads' HO127.out).2.2 | (with_reducible refine Kd.C_alloc ?_ _) | (with_reducible refine Kd.C_drewN ?_ _) | (with_reducible refine Kd.C_drew ?_))); (case side2 => exact (Kd.R_reads' HO127.out).2.1); (case side3 => repeat (first | exact (Kd.R_reads' HO_4.out).2.2 | (with_reducible refine Kd.C_alloc ?_ _) | (with_reducible refine Kd.C_drewN ?_ _) | (with_reducible refine Kd.C_drew ?_))); (case side4 => exact (Kd.R_reads' HO_4.out).2.1); rintro e w' ⟨rfl, ⟨nd, rfl⟩⟩))
              all_goals (go_meet; (case rel => exact ⟨_, (true), (by first | rfl | (simp; done) | (simp [*]; done)), H', ⟨by have := HJ6.out; first | omega | exact Nat.le_refl _⟩, ⟨by (with_reducible repeat (first | apply Kd.R_alloc | apply Kd.R_drewN | apply Kd.R_drew)); exact Kd.R_mono HO_3.out (fun _ hk => ⟨hk.1.1.1.1, ⟨hk.1.1.1.2, hk.1.1.2⟩⟩)⟩, ⟨by (with_reducible repeat (first | apply Kd.R_alloc | apply Kd.R_drewN | apply Kd.R_drew)); exact Kd.R_mono HO_4.out (fun _ hk => ⟨hk.1.1.1.1, ⟨hk.1.1.1.2, hk.1.1.2⟩⟩)⟩, ⟨by (with_reducible repeat (first | apply Kd.R_alloc | apply Kd.R_drewN | apply Kd.R_drew)); exact Kd.R_mono HO127.out (fun _ hk => ⟨hk.1.1.1.1.2, ⟨hk.1.1.1.2, hk.1.1.2⟩⟩)⟩, ⟨by (with_reducible repeat (first | apply Kd.R_alloc | apply Kd.R_drewN | apply Kd.R_drew)); exact Kd.R_mono HO131.out (fun _ hk => ⟨hk.1.1.1.1.2, ⟨hk.1.1.1.2, hk.1.1.2⟩⟩)⟩, ⟨by repeat (first | (with_reducible first | exact HB.out | apply below_alloc | apply pw_below_drewN | apply below_drew1) | exact HB.out)⟩⟩))
          · replace c40 := Bool.eq_false_iff.mpr c40
            subst c40
            have H1 : (laws_FnStreams.j1 kj6 t101 x4_6 t125 t128 t129 true) = some r := by rw [if_neg (show ¬ (false = true) by decide)] at H; exact H
            clear H
            have H := H1
            clear H1
            have H' := Aside0.mk H
            clear H
            obtain ⟨Ao63, co63, eo63⟩ := Kd.R_slice HO127.out
            subst eo63
            go_wp2_with (first | ((with_reducible refine gate_callee (f := 39) rfl ?_); refine goesL_ (some 59) rfl rfl Try.func39 (by kernel_rfl) rfl #[.slice Ao63 t125.length co63, .slice Ao32 t101.length co32] rfl (by (try simp only [List.map_toArray, List.map_cons, List.map_nil]); first | done | rfl | (simp only [List.length_drop, List.length_take]; rfl)) ?_; (with_reducible refine (impl_IsPrefix_c.calls _ _ t125 _ _ t101 false _ ?side1 ?side2 ?side3 ?side4 A39.out).mono ?_); (case side1 => repeat (first | exact (Kd.R_reads' HO127.out).2.2 | (with_reducible refine Kd.C_alloc ?_ _) | (with_reducible refine Kd.C_drewN ?_ _) | (with_reducible refine Kd.C_drew ?_))); (case side2 => exact (Kd.R_reads' HO127.out).2.1); (case side3 => repeat (first | exact (Kd.R_reads' HO_3.out).2.2 | (with_reducible refine Kd.C_alloc ?_ _) | (with_reducible refine Kd.C_drewN ?_ _) | (with_reducible refine Kd.C_drew ?_))); (case side4 => exact (Kd.R_reads' HO_3.out).2.1); rintro e w' ⟨rfl, ⟨nd, rfl⟩⟩; refine ⟨_, rfl, ?_⟩))
            all_goals (go_meet; (case rel => exact ⟨_, (true), (by first | rfl | (simp; done) | (simp [*]; done)), H', ⟨by have := HJ6.out; first | omega | exact Nat.le_refl _⟩, ⟨by (with_reducible repeat (first | apply Kd.R_alloc | apply Kd.R_drewN | apply Kd.R_drew)); exact Kd.R_mono HO_3.out (fun _ hk => ⟨hk.1.1.1.1, ⟨hk.1.1.1.2, hk.1.1.2⟩⟩)⟩, ⟨by (with_reducible repeat (first | apply Kd.R_alloc | apply Kd.R_drewN | apply Kd.R_drew)); exact Kd.R_mono HO_4.out (fun _ hk => ⟨hk.1.1.1.1, ⟨hk.1.1.1.2, hk.1.1.2⟩⟩)⟩, ⟨by (with_reducible repeat (first | apply Kd.R_alloc | apply Kd.R_drewN | apply Kd.R_drew)); exact Kd.R_mono HO127.out (fun _ hk => ⟨hk.1.1.1.1.2, ⟨hk.1.1.1.2, hk.1.1.2⟩⟩)⟩, ⟨by (with_reducible repeat (first | apply Kd.R_alloc | apply Kd.R_drewN | apply Kd.R_drew)); exact Kd.R_mono HO131.out (fun _ hk => ⟨hk.1.1.1.1.2, ⟨hk.1.1.1.2, hk.1.1.2⟩⟩)⟩, ⟨by repeat (first | (with_reducible first | exact HB.out | apply below_alloc | apply pw_below_drewN | apply below_drew1) | exact HB.out)⟩⟩))
        case rest =>
          clear HC31
          try clear c1
          try clear c2
          try clear c2b0
          try clear c2b1
          try clear p2
          try clear q2
          try clear c3
          try clear c4
          try clear c5
          try clear p6
          try clear c7
          try clear c12
          try clear c12b0
          try clear c12b1
          try clear c14
          try clear c14b0
          try clear c14b1
          try clear c16
          try clear c16b0
          try clear c16b1
          try clear c17
          try clear c17b0
          try clear c17b1
          try clear c18
          try clear c19
          try clear c20
          try clear q23
          try clear c33
          try clear c39
          try clear c40
          try clear c41
          try clear c42
          try clear c45
          try clear c46
          try clear c47
          try clear c51
          try clear c57
          try clear c59
          try clear p2
          try clear p6
          try clear q2
          try clear q23
          obtain ⟨kq, x88_30, rfl, HA, HJ30, HO_3, HO_4, HO_5, HO_6, HB⟩ := hcut
          cases kq with
          | zero => exact absurd HA.out (by simp [laws_FnStreams.j1])
          | succ kj30 =>
            have H := HA.out
            clear HA
            simp only [laws_FnStreams.j1] at H
            by_cases c64 : x88_30 = true
            · subst c64
              have H1 : (some false) = some r := by rw [if_pos rfl] at H; exact H
              clear H
              have H := H1
              clear H1
              obtain rfl := Option.some.inj H
              go_wp2
              all_goals (go_ret; exact ⟨by first | rfl | (simp [errW_none, errW_some] <;> rfl) | (simp [*, errW_none, errW_some] <;> rfl), by repeat (first | (with_reducible first | exact HB.out | apply below_alloc | apply pw_below_drewN | apply below_drew1) | exact HB.out)⟩)
            · replace c64 := Bool.eq_false_iff.mpr c64
              subst c64
              have H1 : ((impl_IsPrefix_c.f t101 x4_6).bind fun t147 => (if t147 = true then (if (t129 != true) = true then (laws_FnStreams.j2 kj30 t101 x4_6 t128 t129 true) else (laws_FnStreams.j2 kj30 t101 x4_6 t128 t129 (t129 != ((t125.length : Int) == (mn (t101.length : Int) (x4_6.length : Int)))))) else ((impl_IsPrefix_c.f x4_6 t101).bind fun t148 => (if (t129 != t148) = true then (laws_FnStreams.j2 kj30 t101 x4_6 t128 t129 true) else (laws_FnStreams.j2 kj30 t101 x4_6 t128 t129 (t129 != ((t125.length : Int) == (mn (t101.length : Int) (x4_6.length : Int))))))))) = some r := by rw [if_neg (show ¬ (false = true) by decide)] at H; exact H
              clear H
              have H := H1
              clear H1
              have HC65 := Aside0.mk H
              clear H
              go_upto_region 13 with (fail)
              go_cut [110] (fun v110 wc => ∃ (kq : Nat) (x110_64 : Bool), v110 = .bool x110_64 ∧ Aside0 (laws_FnStreams.j2 kq t101 x4_6 t128 t129 x110_64 = some r) ∧ Aside0 (kq ≤ kj30) ∧ Aside0 (Kd.R (Kd.int .i64) 3 wc w.heap.size (fun k_ => some k_ ≠ ((.slice Ao33 x4_6.length co33) : Value).ownBlock ∧ some k_ ≠ (v130 : Value).ownBlock) (.slice Ao32 t101.length co32) t101) ∧ Aside0 (Kd.R (Kd.int .i64) 3 wc w.heap.size (fun k_ => some k_ ≠ ((.slice Ao32 t101.length co32) : Value).ownBlock ∧ some k_ ≠ (v130 : Value).ownBlock) (.slice Ao33 x4_6.length co33) x4_6) ∧ Aside0 (Kd.R (Kd.int .i64) 3 wc w.heap.size (fun k_ => some k_ ≠ ((.slice Ao32 t101.length co32) : Value).ownBlock ∧ some k_ ≠ ((.slice Ao33 x4_6.length co33) : Value).ownBlock) v130 t128) ∧ Aside0 (Below w.heap.size w wc))
              case first =>
                have H := HC65.out
                clear HC65
                replace H := Option.bind_eq_some_iff.mp H
                obtain ⟨t147, A660, H⟩ := H
                replace H : (if t147 = true then (if (t129 != true) = true then (laws_FnStreams.j2 kj30 t101 x4_6 t128 t129 true) else (laws_FnStreams.j2 kj30 t101 x4_6 t128 t129 (t129 != ((t125.length : Int) == (mn (t101.length : Int) (x4_6.length : Int)))))) else ((impl_IsPrefix_c.f x4_6 t101).bind fun t148 => (if (t129 != t148) = true then (laws_FnStreams.j2 kj30 t101 x4_6 t128 t129 true) else (laws_FnStreams.j2 kj30 t101 x4_6 t128 t129 (t129 != ((t125.length : Int) == (mn (t101.length : Int) (x4_6.length : Int)))))))) = some r := H
                have A66 := Aside0.mk A660
                clear A660
                by_cases c67 : t147 = true
                · subst c67
                  have H1 : (if (t129 != true) = true then (laws_FnStreams.j2 kj30 t101 x4_6 t128 t129 true) else (laws_FnStreams.j2 kj30 t101 x4_6 t128 t129 (t129 != ((t125.length : Int) == (mn (t101.length : Int) (x4_6.length : Int)))))) = some r := by rw [if_pos rfl] at H; exact H
                  clear H
                  have H := H1
                  clear H1
                  by_cases c68 : (t129 != true) = true
                  · rw [if_pos c68] at H
                    have c68b0 : (t129 != true) = true := c68
                    (try (have c68b1 : decide (t129 = true) = false := by simpa using c68))
                    (try (have c68b2 : (t129 == true) = false := by simpa using c68))
                    clear c68
                    (first | rw [c68b0] | (simp only [i64_w, i32_w]; rw [c68b0]) | skip)
                    have H' := Aside0.mk H
                    clear H
                    go_wp2_with (first | ((with_reducible refine gate_callee (f := 39) rfl ?_); refine goesL_ (some 92) rfl rfl Try.func39 (by kernel_rfl) rfl #[.slice Ao32 t101.length co32, .slice Ao33 x4_6.length co33] rfl (by (try simp only [List.map_toArray, List.map_cons, List.map_nil]); first | done | rfl | (simp only [List.length_drop, List.length_take]; rfl)) ?_; (with_reducible refine (impl_IsPrefix_c.calls _ _ t101 _ _ x4_6 true _ ?side1 ?side2 ?side3 ?side4 A66.out).mono ?_); (case side1 => repeat (first | exact (Kd.R_reads' HO_3.out).2.2 | (with_reducible refine Kd.C_alloc ?_ _) | (with_reducible refine Kd.C_drewN ?_ _) | (with_reducible refine Kd.C_drew ?_))); (case side2 => exact (Kd.R_reads' HO_3.out).2.1); (case side3 => repeat (first | exact (Kd.R_reads' HO_4.out).2.2 | (with_reducible refine Kd.C_alloc ?_ _) | (with_reducible refine Kd.C_drewN ?_ _) | (with_reducible refine Kd.C_drew ?_))); (case side4 => exact (Kd.R_reads' HO_4.out).2.1); rintro e w' ⟨rfl, ⟨nd, rfl⟩⟩; refine ⟨_, rfl, ?_⟩))
                    all_goals (go_meet; (case rel => exact ⟨_, (true), (by first | rfl | (simp; done) | (simp [*]; done)), H', ⟨by have := HJ6.out; have := HJ30.out; first | omega | exact Nat.le_refl _⟩, ⟨by (with_reducible repeat (first | apply Kd.R_alloc | apply Kd.R_drewN | apply Kd.R_drew)); exact Kd.R_mono HO_3.out (fun _ hk => ⟨hk.1, hk.2.2⟩)⟩, ⟨by (with_reducible repeat (first | apply Kd.R_alloc | apply Kd.R_drewN | apply Kd.R_drew)); exact Kd.R_mono HO_4.out (fun _ hk => ⟨hk.1, hk.2.2⟩)⟩, ⟨by (with_reducible repeat (first | apply Kd.R_alloc | apply Kd.R_drewN | apply Kd.R_drew)); exact Kd.R_mono HO_6.out (fun _ hk => ⟨hk.1, hk.2.1⟩)⟩, ⟨by repeat (first | (with_reducible first | exact HB.out | apply below_alloc | apply pw_below_drewN | apply below_drew1) | exact HB.out)⟩⟩))
                  · rw [if_neg c68] at H
                    have c68b0 : (t129 != true) = false := by simpa using c68
                    (try (have c68b1 : decide (t129 = true) = true := by simpa using c68))
                    (try (have c68b2 : (t129 == true) = true := by simpa using c68))
                    clear c68
                    (first | rw [c68b0] | (simp only [i64_w, i32_w]; rw [c68b0]) | skip)
                    obtain ⟨ji69, hji69⟩ : ∃ j_ : Int, (mn (t101.length : Int) (x4_6.length : Int)) = j_ := ⟨_, rfl⟩
                    replace H : (laws_FnStreams.j2 kj30 t101 x4_6 t128 t129 (t129 != ((t125.length : Int) == (ji69)))) = some r := by first | (rw [hji69] at H; exact H) | (simp only [hji69] at H ⊢; exact H)
                    (try rw [hji69] at A66)
                    have hji69_ : (if (x4_6.length : Int) < (t101.length : Int) then (x4_6.length : Int) else (t101.length : Int)) = ji69 := hji69
                    have H' := Aside0.mk H
                    clear H
                    go_wp2_with (first | ((with_reducible refine gate_callee (f := 39) rfl ?_); refine goesL_ (some 92) rfl rfl Try.func39 (by kernel_rfl) rfl #[.slice Ao32 t101.length co32, .slice Ao33 x4_6.length co33] rfl (by (try simp only [List.map_toArray, List.map_cons, List.map_nil]); first | done | rfl | (simp only [List.length_drop, List.length_take]; rfl)) ?_; (with_reducible refine (impl_IsPrefix_c.calls _ _ t101 _ _ x4_6 true _ ?side1 ?side2 ?side3 ?side4 A66.out).mono ?_); (case side1 => repeat (first | exact (Kd.R_reads' HO_3.out).2.2 | (with_reducible refine Kd.C_alloc ?_ _) | (with_reducible refine Kd.C_drewN ?_ _) | (with_reducible refine Kd.C_drew ?_))); (case side2 => exact (Kd.R_reads' HO_3.out).2.1); (case side3 => repeat (first | exact (Kd.R_reads' HO_4.out).2.2 | (with_reducible refine Kd.C_alloc ?_ _) | (with_reducible refine Kd.C_drewN ?_ _) | (with_reducible refine Kd.C_drew ?_))); (case side4 => exact (Kd.R_reads' HO_4.out).2.1); rintro e w' ⟨rfl, ⟨nd, rfl⟩⟩; refine ⟨_, rfl, ?_⟩; obtain ⟨Ao70, co70, eo70⟩ := Kd.R_slice HO_5.out; subst eo70))
                    all_goals (go_meet; (case rel => exact ⟨_, ((t129 != ((t125.length : Int) == (ji69)))), (by first | rfl | (simp; done) | (simp only [← hji69] <;> (first | rfl | (simp; done))) | (simp only [← hji69, mn, mx]; (first | rw [if_pos (by omega)] | rw [if_neg (by omega)]); (first | rfl | (simp; done) | (simp [*]; done))) | (simp [*]; done)), H', ⟨by have := HJ6.out; have := HJ30.out; first | omega | exact Nat.le_refl _⟩, ⟨by (with_reducible repeat (first | apply Kd.R_alloc | apply Kd.R_drewN | apply Kd.R_drew)); exact Kd.R_mono HO_3.out (fun _ hk => ⟨hk.1, hk.2.2⟩)⟩, ⟨by (with_reducible repeat (first | apply Kd.R_alloc | apply Kd.R_drewN | apply Kd.R_drew)); exact Kd.R_mono HO_4.out (fun _ hk => ⟨hk.1, hk.2.2⟩)⟩, ⟨by (with_reducible repeat (first | apply Kd.R_alloc | apply Kd.R_drewN | apply Kd.R_drew)); exact Kd.R_mono HO_6.out (fun _ hk => ⟨hk.1, hk.2.1⟩)⟩, ⟨by repeat (first | (with_reducible first | exact HB.out | apply below_alloc | apply pw_below_drewN | apply below_drew1) | exact HB.out)⟩⟩))
                · replace c67 := Bool.eq_false_iff.mpr c67
                  subst c67
                  have H1 : ((impl_IsPrefix_c.f x4_6 t101).bind fun t148 => (if (t129 != t148) = true then (laws_FnStreams.j2 kj30 t101 x4_6 t128 t129 true) else (laws_FnStreams.j2 kj30 t101 x4_6 t128 t129 (t129 != ((t125.length : Int) == (mn (t101.length : Int) (x4_6.length : Int))))))) = some r := by rw [if_neg (show ¬ (false = true) by decide)] at H; exact H
                  clear H
                  have H := H1
                  clear H1
                  replace H := Option.bind_eq_some_iff.mp H
                  obtain ⟨t148, A710, H⟩ := H
                  replace H : (if (t129 != t148) = true then (laws_FnStreams.j2 kj30 t101 x4_6 t128 t129 true) else (laws_FnStreams.j2 kj30 t101 x4_6 t128 t129 (t129 != ((t125.length : Int) == (mn (t101.length : Int) (x4_6.length : Int)))))) = some r := H
                  have A71 := Aside0.mk A710
                  clear A710
                  by_cases c72 : (t129 != t148) = true
                  · rw [if_pos c72] at H
                    have c72b0 : (t129 != t148) = true := c72
                    (try (have c72b1 : decide (t129 = t148) = false := by simpa using c72))
                    (try (have c72b2 : (t129 == t148) = false := by simpa using c72))
                    (try (have c72b3 : ¬ (t129 = t148) := by simpa using c72))
                    clear c72
                    have H' := Aside0.mk H
                    clear H
                    go_wp2_with (first | ((with_reducible refine gate_callee (f := 39) rfl ?_); refine goesL_ (some 92) rfl rfl Try.func39 (by kernel_rfl) rfl #[.slice Ao32 t101.length co32, .slice Ao33 x4_6.length co33] rfl (by (try simp only [List.map_toArray, List.map_cons, List.map_nil]); first | done | rfl | (simp only [List.length_drop, List.length_take]; rfl)) ?_; (with_reducible refine (impl_IsPrefix_c.calls _ _ t101 _ _ x4_6 false _ ?side1 ?side2 ?side3 ?side4 A66.out).mono ?_); (case side1 => repeat (first | exact (Kd.R_reads' HO_3.out).2.2 | (with_reducible refine Kd.C_alloc ?_ _) | (with_reducible refine Kd.C_drewN ?_ _) | (with_reducible refine Kd.C_drew ?_))); (case side2 => exact (Kd.R_reads' HO_3.out).2.1); (case side3 => repeat (first | exact (Kd.R_reads' HO_4.out).2.2 | (with_reducible refine Kd.C_alloc ?_ _) | (with_reducible refine Kd.C_drewN ?_ _) | (with_reducible refine Kd.C_drew ?_))); (case side4 => exact (Kd.R_reads' HO_4.out).2.1); rintro e w' ⟨rfl, ⟨nd, rfl⟩⟩; refine ⟨_, rfl, ?_⟩) | (go_at_call 39; (with_reducible refine (impl_IsPrefix_c.calls _ _ x4_6 _ _ t101 t148 _ ?side1 ?side2 ?side3 ?side4 A71.out).mono ?_); (case side1 => repeat (first | exact (Kd.R_reads' HO_4.out).2.2 | (with_reducible refine Kd.C_alloc ?_ _) | (with_reducible refine Kd.C_drewN ?_ _) | (with_reducible refine Kd.C_drew ?_))); (case side2 => exact (Kd.R_reads' HO_4.out).2.1); (case side3 => repeat (first | exact (Kd.R_reads' HO_3.out).2.2 | (with_reducible refine Kd.C_alloc ?_ _) | (with_reducible refine Kd.C_drewN ?_ _) | (with_reducible refine Kd.C_drew ?_))); (case side4 => exact (Kd.R_reads' HO_3.out).2.1); rintro e w' ⟨rfl, ⟨nd, rfl⟩⟩))
                    all_goals (go_meet; (case rel => exact ⟨_, (true), (by first | rfl | (simp; done) | (simp [*]; done)), H', ⟨by have := HJ6.out; have := HJ30.out; first | omega | exact Nat.le_refl _⟩, ⟨by (with_reducible repeat (first | apply Kd.R_alloc | apply Kd.R_drewN | apply Kd.R_drew)); exact Kd.R_mono HO_3.out (fun _ hk => ⟨hk.1, hk.2.2⟩)⟩, ⟨by (with_reducible repeat (first | apply Kd.R_alloc | apply Kd.R_drewN | apply Kd.R_drew)); exact Kd.R_mono HO_4.out (fun _ hk => ⟨hk.1, hk.2.2⟩)⟩, ⟨by (with_reducible repeat (first | apply Kd.R_alloc | apply Kd.R_drewN | apply Kd.R_drew)); exact Kd.R_mono HO_6.out (fun _ hk => ⟨hk.1, hk.2.1⟩)⟩, ⟨by repeat (first | (with_reducible first | exact HB.out | apply below_alloc | apply pw_below_drewN | apply below_drew1) | exact HB.out)⟩⟩))
                  · rw [if_neg c72] at H
                    have c72b0 : (t129 != t148) = false := by simpa using c72
                    (try (have c72b1 : decide (t129 = t148) = true := by simpa using c72))
                    (try (have c72b2 : (t129 == t148) = true := by simpa using c72))
                    clear c72
                    obtain ⟨ji73, hji73⟩ : ∃ j_ : Int, (mn (t101.length : Int) (x4_6.length : Int)) = j_ := ⟨_, rfl⟩
                    replace H : (laws_FnStreams.j2 kj30 t101 x4_6 t128 t129 (t129 != ((t125.length : Int) == (ji73)))) = some r := by first | (rw [hji73] at H; exact H) | (simp only [hji73] at H ⊢; exact H)
                    (try rw [hji73] at A66)
                    (try rw [hji73] at A71)
                    have hji73_ : (if (x4_6.length : Int) < (t101.length : Int) then (x4_6.length : Int) else (t101.length : Int)) = ji73 := hji73
                    have H' := Aside0.mk H
                    clear H
                    go_wp2_with (first | ((with_reducible refine gate_callee (f := 39) rfl ?_); refine goesL_ (some 92) rfl rfl Try.func39 (by kernel_rfl) rfl #[.slice Ao32 t101.length co32, .slice Ao33 x4_6.length co33] rfl (by (try simp only [List.map_toArray, List.map_cons, List.map_nil]); first | done | rfl | (simp only [List.length_drop, List.length_take]; rfl)) ?_; (with_reducible refine (impl_IsPrefix_c.calls _ _ t101 _ _ x4_6 false _ ?side1 ?side2 ?side3 ?side4 A66.out).mono ?_); (case side1 => repeat (first | exact (Kd.R_reads' HO_3.out).2.2 | (with_reducible refine Kd.C_alloc ?_ _) | (with_reducible refine Kd.C_drewN ?_ _) | (with_reducible refine Kd.C_drew ?_))); (case side2 => exact (Kd.R_reads' HO_3.out).2.1); (case side3 => repeat (first | exact (Kd.R_reads' HO_4.out).2.2 | (with_reducible refine Kd.C_alloc ?_ _) | (with_reducible refine Kd.C_drewN ?_ _) | (with_reducible refine Kd.C_drew ?_))); (case side4 => exact (Kd.R_reads' HO_4.out).2.1); rintro e w' ⟨rfl, ⟨nd, rfl⟩⟩; refine ⟨_, rfl, ?_⟩) | (go_at_call 39; (with_reducible refine (impl_IsPrefix_c.calls _ _ x4_6 _ _ t101 t148 _ ?side1 ?side2 ?side3 ?side4 A71.out).mono ?_); (case side1 => repeat (first | exact (Kd.R_reads' HO_4.out).2.2 | (with_reducible refine Kd.C_alloc ?_ _) | (with_reducible refine Kd.C_drewN ?_ _) | (with_reducible refine Kd.C_drew ?_))); (case side2 => exact (Kd.R_reads' HO_4.out).2.1); (case side3 => repeat (first | exact (Kd.R_reads' HO_3.out).2.2 | (with_reducible refine Kd.C_alloc ?_ _) | (with_reducible refine Kd.C_drewN ?_ _) | (with_reducible refine Kd.C_drew ?_))); (case side4 => exact (Kd.R_reads' HO_3.out).2.1); rintro e w' ⟨rfl, ⟨nd, rfl⟩⟩; obtain ⟨Ao74, co74, eo74⟩ := Kd.R_slice HO_5.out; subst eo74))
                    all_goals (go_meet; (case rel => exact ⟨_, ((t129 != ((t125.length : Int) == (ji73)))), (by first | rfl | (simp; done) | (simp only [← hji73] <;> (first | rfl | (simp; done))) | (simp only [← hji73, mn, mx]; (first | rw [if_pos (by omega)] | rw [if_neg (by omega)]); (first | rfl | (simp; done) | (simp [*]; done))) | (simp [*]; done)), H', ⟨by have := HJ6.out; have := HJ30.out; first | omega | exact Nat.le_refl _⟩, ⟨by (with_reducible repeat (first | apply Kd.R_alloc | apply Kd.R_drewN | apply Kd.R_drew)); exact Kd.R_mono HO_3.out (fun _ hk => ⟨hk.1, hk.2.2⟩)⟩, ⟨by (with_reducible repeat (first | apply Kd.R_alloc | apply Kd.R_drewN | apply Kd.R_drew)); exact Kd.R_mono HO_4.out (fun _ hk => ⟨hk.1, hk.2.2⟩)⟩, ⟨by (with_reducible repeat (first | apply Kd.R_alloc | apply Kd.R_drewN | apply Kd.R_drew)); exact Kd.R_mono HO_6.out (fun _ hk => ⟨hk.1, hk.2.1⟩)⟩, ⟨by repeat (first | (with_reducible first | exact HB.out | apply below_alloc | apply pw_below_drewN | apply below_drew1) | exact HB.out)⟩⟩))
              case rest =>
                clear HC65
                try clear c1
                try clear c2
                try clear c2b0
                try clear c2b1
                try clear p2
                try clear q2
                try clear c3
                try clear c4
                try clear c5
                try clear c6
                try clear p6
                try clear c7
                try clear c12
                try clear c12b0
                try clear c12b1
                try clear c14
                try clear c14b0
                try clear c14b1
                try clear c16
                try clear c16b0
                try clear c16b1
                try clear c17
                try clear c17b0
                try clear c17b1
                try clear c18
                try clear c19
                try clear c20
                try clear q23
                try clear c33
                try clear c39
                try clear c40
                try clear c41
                try clear c42
                try clear c45
                try clear c46
                try clear c47
                try clear c51
                try clear c57
                try clear c59
                try clear c64
                try clear p64
                try clear c67
                try clear c68
                try clear c68b0
                try clear c68b1
                try clear c68b2
                try clear c71
                try clear c72
                try clear c72b0
                try clear c72b1
                try clear c72b2
                try clear p2
                try clear p6
                try clear q2
                try clear q23
                obtain ⟨kq, x110_64, rfl, HA, HJ64, HO_3, HO_4, HO_6, HB⟩ := hcut
                cases kq with
                | zero => exact absurd HA.out (by simp [laws_FnStreams.j2])
                | succ kj64 =>
                  have H := HA.out
                  clear HA
                  simp only [laws_FnStreams.j2] at H
                  by_cases c75 : x110_64 = true
                  · subst c75
                    have H1 : (some false) = some r := by rw [if_pos rfl] at H; exact H
                    clear H
                    have H := H1
                    clear H1
                    obtain rfl := Option.some.inj H
                    go_wp2
                    all_goals (go_ret; exact ⟨by first | rfl | (simp [errW_none, errW_some] <;> rfl) | (simp [*, errW_none, errW_some] <;> rfl), by repeat (first | (with_reducible first | exact HB.out | apply below_alloc | apply pw_below_drewN | apply below_drew1) | exact HB.out)⟩)
                  · replace c75 := Bool.eq_false_iff.mpr c75
                    subst c75
                    have H1 : (if t129 = true then ((impl_IsPrefix_c.f t101 t128).bind fun t149 => (if t149 = true then ((impl_IsPrefix_c.f x4_6 t128).bind fun t150 => (if t150 = true then (some ((t128.length : Int) == (mx (t101.length : Int) (x4_6.length : Int)))) else (some false))) else (some false))) else (some true)) = some r := by rw [if_neg (show ¬ (false = true) by decide)] at H; exact H
                    clear H
                    have H := H1
                    clear H1
                    by_cases c76 : t129 = true
                    · subst c76
                      have H1 : ((impl_IsPrefix_c.f t101 t128).bind fun t149 => (if t149 = true then ((impl_IsPrefix_c.f x4_6 t128).bind fun t150 => (if t150 = true then (some ((t128.length : Int) == (mx (t101.length : Int) (x4_6.length : Int)))) else (some false))) else (some false))) = some r := by rw [if_pos rfl] at H; exact H
                      clear H
                      have H := H1
                      clear H1
                      replace H := Option.bind_eq_some_iff.mp H
                      obtain ⟨t149, A770, H⟩ := H
                      replace H : (if t149 = true then ((impl_IsPrefix_c.f x4_6 t128).bind fun t150 => (if t150 = true then (some ((t128.length : Int) == (mx (t101.length : Int) (x4_6.length : Int)))) else (some false))) else (some false)) = some r := H
                      have A77 := Aside0.mk A770
                      clear A770
                      by_cases c78 : t149 = true
                      · subst c78
                        have H1 : ((impl_IsPrefix_c.f x4_6 t128).bind fun t150 => (if t150 = true then (some ((t128.length : Int) == (mx (t101.length : Int) (x4_6.length : Int)))) else (some false))) = some r := by rw [if_pos rfl] at H; exact H
                        clear H
                        have H := H1
                        clear H1
                        replace H := Option.bind_eq_some_iff.mp H
                        obtain ⟨t150, A790, H⟩ := H
                        replace H : (if t150 = true then (some ((t128.length : Int) == (mx (t101.length : Int) (x4_6.length : Int)))) else (some false)) = some r := H
                        have A79 := Aside0.mk A790
                        clear A790
                        by_cases c80 : t150 = true
                        · subst c80
                          have H1 : (some ((t128.length : Int) == (mx (t101.length : Int) (x4_6.length : Int)))) = some r := by rw [if_pos rfl] at H; exact H
                          clear H
                          have H := H1
                          clear H1
                          obtain ⟨ji81, hji81⟩ : ∃ j_ : Int, (mx (t101.length : Int) (x4_6.length : Int)) = j_ := ⟨_, rfl⟩
                          replace H : (some ((t128.length : Int) == (ji81))) = some r := by first | (rw [hji81] at H; exact H) | (simp only [hji81] at H ⊢; exact H)
                          (try rw [hji81] at A77)
                          (try rw [hji81] at A79)
                          have hji81_ : (if (t101.length : Int) < (x4_6.length : Int) then (x4_6.length : Int) else (t101.length : Int)) = ji81 := hji81
                          obtain rfl := Option.some.inj H
                          obtain ⟨Ao82, co82, eo82⟩ := Kd.R_slice HO_6.out
                          subst eo82
                          go_wp2_with (first | (go_at_call 39; (with_reducible refine (impl_IsPrefix_c.calls _ _ t101 _ _ t128 true _ ?side1 ?side2 ?side3 ?side4 A77.out).mono ?_); (case side1 => repeat (first | exact (Kd.R_reads' HO_3.out).2.2 | (with_reducible refine Kd.C_alloc ?_ _) | (with_reducible refine Kd.C_drewN ?_ _) | (with_reducible refine Kd.C_drew ?_))); (case side2 => exact (Kd.R_reads' HO_3.out).2.1); (case side3 => repeat (first | exact (Kd.R_reads' HO_6.out).2.2 | (with_reducible refine Kd.C_alloc ?_ _) | (with_reducible refine Kd.C_drewN ?_ _) | (with_reducible refine Kd.C_drew ?_))); (case side4 => exact (Kd.R_reads' HO_6.out).2.1); rintro e w' ⟨rfl, ⟨nd, rfl⟩⟩) | (go_at_call 39; (with_reducible refine (impl_IsPrefix_c.calls _ _ x4_6 _ _ t128 true _ ?side1 ?side2 ?side3 ?side4 A79.out).mono ?_); (case side1 => repeat (first | exact (Kd.R_reads' HO_4.out).2.2 | (with_reducible refine Kd.C_alloc ?_ _) | (with_reducible refine Kd.C_drewN ?_ _) | (with_reducible refine Kd.C_drew ?_))); (case side2 => exact (Kd.R_reads' HO_4.out).2.1); (case side3 => repeat (first | exact (Kd.R_reads' HO_6.out).2.2 | (with_reducible refine Kd.C_alloc ?_ _) | (with_reducible refine Kd.C_drewN ?_ _) | (with_reducible refine Kd.C_drew ?_))); (case side4 => exact (Kd.R_reads' HO_6.out).2.1); rintro e w' ⟨rfl, ⟨nd, rfl⟩⟩))
                          all_goals (go_ret; exact ⟨by first | rfl | (simp [errW_none, errW_some] <;> rfl) | (simp only [← hji81]; first | rfl | (simp [errW_none, errW_some] <;> rfl)) | (simp only [← hji81, mn, mx]; (first | rw [if_pos (by omega)] | rw [if_neg (by omega)]); rfl) | (simp [*, errW_none, errW_some] <;> rfl), by repeat (first | (with_reducible first | exact HB.out | apply below_alloc | apply pw_below_drewN | apply below_drew1) | exact HB.out)⟩)
                        · replace c80 := Bool.eq_false_iff.mpr c80
                          subst c80
                          have H1 : (some false) = some r := by rw [if_neg (show ¬ (false = true) by decide)] at H; exact H
                          clear H
                          have H := H1
                          clear H1
                          obtain rfl := Option.some.inj H
                          obtain ⟨Ao83, co83, eo83⟩ := Kd.R_slice HO_6.out
                          subst eo83
                          go_wp2_with (first | (go_at_call 39; (with_reducible refine (impl_IsPrefix_c.calls _ _ t101 _ _ t128 true _ ?side1 ?side2 ?side3 ?side4 A77.out).mono ?_); (case side1 => repeat (first | exact (Kd.R_reads' HO_3.out).2.2 | (with_reducible refine Kd.C_alloc ?_ _) | (with_reducible refine Kd.C_drewN ?_ _) | (with_reducible refine Kd.C_drew ?_))); (case side2 => exact (Kd.R_reads' HO_3.out).2.1); (case side3 => repeat (first | exact (Kd.R_reads' HO_6.out).2.2 | (with_reducible refine Kd.C_alloc ?_ _) | (with_reducible refine Kd.C_drewN ?_ _) | (with_reducible refine Kd.C_drew ?_))); (case side4 => exact (Kd.R_reads' HO_6.out).2.1); rintro e w' ⟨rfl, ⟨nd, rfl⟩⟩) | (go_at_call 39; (with_reducible refine (impl_IsPrefix_c.calls _ _ x4_6 _ _ t128 false _ ?side1 ?side2 ?side3 ?side4 A79.out).mono ?_); (case side1 => repeat (first | exact (Kd.R_reads' HO_4.out).2.2 | (with_reducible refine Kd.C_alloc ?_ _) | (with_reducible refine Kd.C_drewN ?_ _) | (with_reducible refine Kd.C_drew ?_))); (case side2 => exact (Kd.R_reads' HO_4.out).2.1); (case side3 => repeat (first | exact (Kd.R_reads' HO_6.out).2.2 | (with_reducible refine Kd.C_alloc ?_ _) | (with_reducible refine Kd.C_drewN ?_ _) | (with_reducible refine Kd.C_drew ?_))); (case side4 => exact (Kd.R_reads' HO_6.out).2.1); rintro e w' ⟨rfl, ⟨nd, rfl⟩⟩))
                          all_goals (go_ret; exact ⟨by first | rfl | (simp [errW_none, errW_some] <;> rfl) | (simp [*, errW_none, errW_some] <;> rfl), by repeat (first | (with_reducible first | exact HB.out | apply below_alloc | apply pw_below_drewN | apply below_drew1) | exact HB.out)⟩)
                      · replace c78 := Bool.eq_false_iff.mpr c78
                        subst c78
                        have H1 : (some false) = some r := by rw [if_neg (show ¬ (false = true) by decide)] at H; exact H
                        clear H
                        have H := H1
                        clear H1
                        obtain rfl := Option.some.inj H
                        obtain ⟨Ao84, co84, eo84⟩ := Kd.R_slice HO_6.out
                        subst eo84
                        go_wp2_with (first | (go_at_call 39; (with_reducible refine (impl_IsPrefix_c.calls _ _ t101 _ _ t128 false _ ?side1 ?side2 ?side3 ?side4 A77.out).mono ?_); (case side1 => repeat (first | exact (Kd.R_reads' HO_3.out).2.2 | (with_reducible refine Kd.C_alloc ?_ _) | (with_reducible refine Kd.C_drewN ?_ _) | (with_reducible refine Kd.C_drew ?_))); (case side2 => exact (Kd.R_reads' HO_3.out).2.1); (case side3 => repeat (first | exact (Kd.R_reads' HO_6.out).2.2 | (with_reducible refine Kd.C_alloc ?_ _) | (with_reducible refine Kd.C_drewN ?_ _) | (with_reducible refine Kd.C_drew ?_))); (case side4 => exact (Kd.R_reads' HO_6.out).2.1); rintro e w' ⟨rfl, ⟨nd, rfl⟩⟩))
                        all_goals (go_ret; exact ⟨by first | rfl | (simp [errW_none, errW_some] <;> rfl) | (simp [*, errW_none, errW_some] <;> rfl), by repeat (first | (with_reducible first | exact HB.out | apply below_alloc | apply pw_below_drewN | apply below_drew1) | exact HB.out)⟩)
                    · replace c76 := Bool.eq_false_iff.mpr c76
                      subst c76
                      have H1 : (some true) = some r := by rw [if_neg (show ¬ (false = true) by decide)] at H; exact H
                      clear H
                      have H := H1
                      clear H1
                      obtain rfl := Option.some.inj H
                      go_wp2
                      all_goals (go_ret; exact ⟨by first | rfl | (simp [errW_none, errW_some] <;> rfl) | (simp [*, errW_none, errW_some] <;> rfl), by repeat (first | (with_reducible first | exact HB.out | apply below_alloc | apply pw_below_drewN | apply below_drew1) | exact HB.out)⟩)

/-- THE ONE PURE STATEMENT of laws_FnStreams: yours. -/
def laws_FnStreams.Pure : Prop := ∀ (l0 : List Int), l0.length ≤ maxLen → l0.length * 1 ≤ 140737488351232 → (∀ x ∈ l0, (Lit.int .u8 x).wf = true) → ∃ k, laws_FnStreams.f k l0 = some true
theorem laws_FnStreams.walk (P : laws_FnStreams.Pure) (a0 : Option Addr) (len0 cap0 : Nat) (z0 : List Int) (w : World) (w0 : (a0 = none ∧ len0 = 0 ∧ cap0 = 0 ∧ z0 = []) ∨ ∃ x, a0 = some x ∧ len0 ≤ cap0 ∧ cap0 ≤ maxLen ∧ z0.length = cap0 ∧ (∀ i, i < z0.length → w.cell? (x.add i) = some (.int .u8 (z0.getD i 0))) ∧ ∀ n ∈ z0, (Lit.int .u8 n).wf = true) (y0 : len0 * 1 ≤ 140737488351232) :
    Calls Try.prog 20 #[.slice a0 len0 cap0] w fun e w' => e = .returned (.bool true) ∧ Below w.heap.size w w' := by
  obtain ⟨l0, rfl, hr0, hm0, hw0, hc0⟩ := ReadsInt.ofRowC w0
  obtain ⟨k, h⟩ := P l0 hm0 y0 hw0
  refine (laws_FnStreams.calls k _ _ l0 true w (Kd.C_of_reads (d := (0 : Int)) (h1 := fun _ => rfl) hr0) hc0 h).mono ?_
  rintro e w' ⟨rfl, hd⟩
  exact ⟨rfl, hd⟩

end Go.Proofs.Ytpdhoimpbiehkaa.Q

/- What the laws' maker draws: bytes, numbers below a bound, tokens, streams. Plain lemmas on the printed contracts. -/
namespace Go.Proofs.Ytpdhoimpbiehkaa.Q
open Go.RowKit Go.Proofs.YtpdhoimpbiehkaaW.PrintWords Go.Proofs.YtpdhoimpbiehkaaW.PrintLast
set_option linter.unusedVariables false
set_option linter.unusedSimpArgs false
theorem and_range (x m : Int) (h0 : 0 ≤ m) (h1 : m < 4611686018427387904) : 0 ≤ Go.bits .and .i64 x m ∧ Go.bits .and .i64 x m ≤ m := by
  obtain ⟨n, rfl⟩ := Int.eq_ofNat_of_zero_le h0
  have hn : n < 4611686018427387904 := by omega
  have e : Go.bits .and .i64 x (n : Int) = IntKind.i64.wrap (((BitVec.ofInt 64 x).toNat &&& n : Nat) : Int) := by
    simp only [Go.bits, BitVec.toNat_and]
    congr 2
    show _ &&& (BitVec.ofInt 64 (n : Int)).toNat = _
    rw [BitVec.ofInt_natCast, BitVec.toNat_ofNat, Nat.mod_eq_of_lt (by omega)]
    rfl
  have hl : (BitVec.ofInt 64 x).toNat &&& n ≤ n := Nat.and_le_right
  rw [e, IntKind.wrap_i64]
  omega
/-- The list that is read is short enough for its places to be counted. -/
def Short (l : List Int) : Prop := l.length < 9223372036854775807
theorem byte_some (l : List Int) (i h : Int) (hl : Short l) (hi : 0 ≤ i) : ∃ b j g, spec_l01Byte.f l i h = some (b, j, g) ∧ 0 ≤ b ∧ b ≤ 255 ∧ 0 ≤ j := by
  unfold Short at hl
  unfold spec_l01Byte.f
  by_cases hlt : i < (l.length : Int)
  · rw [if_pos hlt, if_pos hi]
    refine ⟨_, _, _, rfl, (and_range _ 255 (by omega) (by omega)).1, (and_range _ 255 (by omega) (by omega)).2, ?_⟩
    rw [w64 (by omega) (by omega)]; omega
  · rw [if_neg hlt]
    exact ⟨_, _, _, rfl, (and_range _ 255 (by omega) (by omega)).1, (and_range _ 255 (by omega) (by omega)).2, hi⟩
theorem tmod_below (a n : Int) (ha : 0 ≤ a) (hn : 0 < n) : 0 ≤ Int.tmod a n ∧ Int.tmod a n < n := by
  rw [Int.tmod_eq_emod_of_nonneg ha]
  exact ⟨Int.emod_nonneg _ (by omega), Int.emod_lt_of_pos _ hn⟩
theorem below_some (l : List Int) (i h n : Int) (hl : Short l) (hi : 0 ≤ i) : ∃ v j g, spec_l01Below.f l i h n = some (v, j, g) ∧ 0 ≤ v ∧ (0 < n → v < n) ∧ (n ≤ 0 → v = 0) ∧ 0 ≤ j := by
  unfold spec_l01Below.f
  by_cases h0 : n ≤ 0
  · rw [if_pos h0]
    exact ⟨_, _, _, rfl, by omega, fun _ => by omega, fun _ => rfl, hi⟩
  · rw [if_neg h0]
    by_cases h1 : n ≤ 256
    · rw [if_pos h1]
      obtain ⟨b, j, g, e, b0, b1, hj⟩ := byte_some l i h hl hi
      rw [e]
      simp only [Option.bind_some]
      rw [if_neg (by omega)]
      have := tmod_below b n b0 (by omega)
      exact ⟨_, _, _, rfl, this.1, fun _ => this.2, fun _ => by omega, hj⟩
    · rw [if_neg h1]
      obtain ⟨b, j, g, e, b0, b1, hj⟩ := byte_some l i h hl hi
      obtain ⟨b', j', g', e', b0', b1', hj'⟩ := byte_some l j g hl hj
      obtain ⟨b2, j2, g2, e2, b02, b12, hj2⟩ := byte_some l j' g' hl hj'
      obtain ⟨b3, j3, g3, e3, b03, b13, hj3⟩ := byte_some l j2 g2 hl hj2
      simp only [e, e', e2, e3, Option.bind_some]
      rw [if_neg (by omega)]
      have hw : 0 ≤ wrap64 ((wrap64 ((wrap64 ((wrap64 (b * 16777216)) + (wrap64 (b' * 65536)))) + (wrap64 (b2 * 256)))) + b3) := by
        rw [w64 (x := b * 16777216) (by omega) (by omega), w64 (x := b' * 65536) (by omega) (by omega), w64 (x := b2 * 256) (by omega) (by omega), w64 (x := b * 16777216 + b' * 65536) (by omega) (by omega), w64 (x := b * 16777216 + b' * 65536 + b2 * 256) (by omega) (by omega), w64 (by omega) (by omega)]
        omega
      have := tmod_below _ n hw (by omega)
      exact ⟨_, _, _, rfl, this.1, fun _ => this.2, fun _ => by omega, hj3⟩
theorem int_some (l : List Int) (i h : Int) (xs : List Int) (hl : Short l) (hi : 0 ≤ i) (hx : xs ≠ []) : ∃ v j g, spec_l01Int.f l i h xs = some (v, j, g) ∧ v ∈ xs ∧ 0 ≤ j := by
  unfold spec_l01Int.f
  obtain ⟨v, j, g, e, v0, v1, _, hj⟩ := below_some l i h (xs.length : Int) hl hi
  have hp : 0 < xs.length := List.length_pos_iff.2 hx
  have hv := v1 (by omega)
  rw [e]
  simp only [Option.bind_some]
  rw [if_pos v0, if_pos hv]
  obtain ⟨k, rfl⟩ := Int.eq_ofNat_of_zero_le v0
  refine ⟨_, _, _, rfl, ?_, hj⟩
  rw [rd_eq (by omega)]
  exact List.getElem_mem _
theorem once_some (l : List Int) (i h n : Int) (hl : Short l) (hi : 0 ≤ i) : ∃ b j g, spec_l01Once.f l i h n = some (b, j, g) ∧ 0 ≤ j := by
  unfold spec_l01Once.f
  obtain ⟨v, j, g, e, v0, v1, _, hj⟩ := below_some l i h n hl hi
  rw [e]
  exact ⟨_, _, _, rfl, hj⟩
theorem some_some (l : List Int) (i h : Int) (hl : Short l) (hi : 0 ≤ i) : ∃ v j g, spec_l1Some.f l i h = some (v, j, g) ∧ M.tok v = true ∧ 0 ≤ j := by
  unfold spec_l1Some.f
  obtain ⟨b, j, g, e, hj⟩ := once_some l i h 9 hl hi
  rw [e]
  simp only [Option.bind_some]
  cases b
  · simp only [Bool.false_eq_true, if_false]
    obtain ⟨v, j', g', e', v0, v1, _, hj'⟩ := below_some l j g 15 hl hj
    rw [e']
    simp only [Option.bind_some]
    have := v1 (by omega)
    refine ⟨_, _, _, rfl, ?_, hj'⟩
    rw [w64 (by omega) (by omega)]
    simp only [M.tok, Bool.and_eq_true, decide_eq_true_eq]
    omega
  · simp only [if_true]
    obtain ⟨v, j', g', e', hv, hj'⟩ := int_some l j g [999999, (-999999), 999998, 500000, (-500000)] hl hj (by simp)
    rw [e']
    refine ⟨_, _, _, rfl, ?_, hj'⟩
    simp only [List.mem_cons, List.not_mem_nil, or_false] at hv
    simp only [M.tok, Bool.and_eq_true, decide_eq_true_eq]
    omega
theorem tokens_loop (l : List Int) (hl : Short l) : ∀ (n : Nat) (xs : List Int) (i h : Int), 0 ≤ i → n ≤ 1000 → xs.length + n ≤ 1000 → xs.all M.tok = true →
    ∃ k R j g, spec_l3Tokens.l0 k xs (n : Int) l i h = some (R, j, g) ∧ R.all M.tok = true ∧ R.length = xs.length + n ∧ 0 ≤ j := by
  intro n
  induction n with
  | zero =>
    intro xs i h hi _ _ ha
    exact ⟨1, xs, i, h, by simp [spec_l3Tokens.l0], ha, rfl, hi⟩
  | succ n ih =>
    intro xs i h hi hn hx ha
    obtain ⟨v, j, g, e, hv, hj⟩ := some_some l i h hl hi
    obtain ⟨k, R, j', g', e', hR, hlen, hj'⟩ := ih (xs ++ [v]) j g hj (by omega) (by simp; omega) (by simp [ha, hv])
    refine ⟨k + 1, R, j', g', ?_, hR, by rw [hlen, List.length_append]; simp; omega, hj'⟩
    simp only [spec_l3Tokens.l0]
    rw [if_pos (by omega), e]
    simp only [Option.bind_some]
    rw [if_pos (by omega), w64 (by omega) (by omega)]
    have : ((n + 1 : Nat) : Int) - 1 = (n : Int) := by omega
    rw [this]
    exact e'
theorem tokens_some (l : List Int) (i h n : Int) (hl : Short l) (hi : 0 ≤ i) (h0 : 0 ≤ n) (h1 : n ≤ 900) : ∃ k R j g, spec_l3Tokens.f k l i h n = some (R, j, g) ∧ R.all M.tok = true ∧ (R.length : Int) ≤ n ∧ 0 ≤ j := by
  obtain ⟨v, j, g, e, v0, v1, _, hj⟩ := below_some l i h (n + 1) hl hi
  have := v1 (by omega)
  obtain ⟨m, rfl⟩ := Int.eq_ofNat_of_zero_le v0
  obtain ⟨k, R, j', g', e', hR, hlen, hj'⟩ := tokens_loop l hl m [] j g hj (by omega) (by simp; omega) rfl
  refine ⟨k, R, j', g', ?_, hR, by rw [hlen]; simp; omega, hj'⟩
  unfold spec_l3Tokens.f
  rw [w64 (by omega) (by omega), e]
  exact e'
theorem new_loop (l : List Int) (hl : Short l) : ∀ (d : Nat) (i : Nat) (h : Int), l.length - i ≤ d → i ≤ l.length → ∃ k g, spec_l01New.l0 k l h (i : Int) = some (l, 0, g) := by
  intro d
  unfold Short at hl
  induction d with
  | zero =>
    intro i h hd hi
    exact ⟨0 + 1, h, by rw [spec_l01New.l0, if_neg (by omega)]⟩
  | succ d ih =>
    intro i h hd hi
    by_cases hlt : i < l.length
    · by_cases h4 : (i : Int) < 4000
      · obtain ⟨k, g, e⟩ := ih (i + 1) (Go.bits .and .i64 (wrap64 ((wrap64 ((wrap64 (h * 1103)) + (wrap64 (rd l i)))) + 7)) 1073741823) (by omega) (by omega)
        refine ⟨k + 1, g, ?_⟩
        rw [spec_l01New.l0, if_pos (by omega), if_pos h4, if_pos (by omega), w64_succ i (by omega)]
        exact e
      · exact ⟨0 + 1, h, by rw [spec_l01New.l0, if_pos (by omega), if_neg h4]⟩
    · exact ⟨0 + 1, h, by rw [spec_l01New.l0, if_neg (by omega)]⟩
theorem new_some (l : List Int) (hl : Short l) : ∃ k g, spec_l01New.f k l = some (l, 0, g) := by
  unfold spec_l01New.f
  have := new_loop l hl l.length 0 (wrap64 (3224 + (l.length : Int))) (by omega) (by omega)
  exact this
/-- A contract with rounds: what it answers, it answers with more rounds too. -/
theorem more {α : Type} (f : Nat → Option α) (h : ∀ k, LeO (f k) (f (k + 1))) {k : Nat} {r : α} (e : f k = some r) : ∀ d, f (k + d) = some r
  | 0 => e
  | d + 1 => h (k + d) r (more f h e d)
theorem more_le {α : Type} (f : Nat → Option α) (h : ∀ k, LeO (f k) (f (k + 1))) {k m : Nat} {r : α} (e : f k = some r) (hm : k ≤ m) : f m = some r := by
  obtain ⟨d, rfl⟩ := Nat.exists_eq_add_of_le hm
  exact more f h e d
theorem stream_some (l : List Int) (n : Int) (hl : Short l) (h0 : 0 ≤ n) (h1 : n ≤ 100) : ∃ k R, spec_MakeStream.f k l n = some R ∧ R.all M.tok = true ∧ (R.length : Int) ≤ n := by
  obtain ⟨k, g, e⟩ := new_some l hl
  obtain ⟨k', R, j, g', e', hR, hlen, _⟩ := tokens_some l 0 g n hl (by omega) h0 (by omega)
  refine ⟨max k k', R, ?_, hR, hlen⟩
  unfold spec_MakeStream.f
  have hm : mx 0 (mn n 100) = n := by unfold mx mn; (repeat' split) <;> omega
  rw [more_le (fun k => spec_l01New.f k l) (fun k => spec_l01New.mono l k) e (Nat.le_max_left ..), hm]
  simp only [Option.bind_some]
  rw [more_le (fun k => spec_l3Tokens.f k l 0 g n) (fun k => spec_l3Tokens.mono l 0 g n k) e' (Nat.le_max_right ..)]
  rfl
theorem fresh_loop (l : List Int) (s : Int) (hl : l.length ≤ 1048576) : ∀ (d i : Nat) (xs : List Int), l.length - i ≤ d → i ≤ l.length → xs.length = i + 1 → ∃ k R, laws_fresh.l0 k l s xs (i : Int) = some R ∧ R.length ≤ l.length + 1 := by
  intro d
  induction d with
  | zero =>
    intro i xs hd hi hx
    exact ⟨0 + 1, xs, by rw [laws_fresh.l0, if_neg (by omega)], by omega⟩
  | succ d ih =>
    intro i xs hd hi hx
    by_cases hlt : i < l.length
    · by_cases h4 : (i : Int) < 600
      · obtain ⟨k, R, e, hR⟩ := ih (i + 1) (xs ++ [(wrap64 ((wrap64 ((wrap64 (rd l i)) * 3)) + (wrap64 (s * (wrap64 ((Int.tmod i 7) + 1)))))) % 256]) (by omega) (by omega) (by simp [hx])
        refine ⟨k + 1, R, ?_, hR⟩
        rw [laws_fresh.l0, if_pos (by omega), if_pos h4, if_pos (by omega), if_pos (by omega), w64_succ i (by omega)]
        exact e
      · exact ⟨0 + 1, xs, by rw [laws_fresh.l0, if_pos (by omega), if_neg h4], by omega⟩
    · exact ⟨0 + 1, xs, by rw [laws_fresh.l0, if_neg (by omega)], by omega⟩
theorem fresh_some (l : List Int) (s : Int) (hl : l.length ≤ 1048576) : ∃ k R, laws_fresh.f k l s = some R ∧ Short R := by
  obtain ⟨k, R, e, hR⟩ := fresh_loop l s hl l.length 0 [s % 256] (by omega) (by omega) rfl
  exact ⟨k, R, e, by unfold Short; omega⟩
end Go.Proofs.Ytpdhoimpbiehkaa.Q

/- Prefixes meet and join as they should: the meet is below both, the join above both, and what follows a prefix follows it. Every argument: no condition. -/
namespace Go.Proofs.Ytpdhoimpbiehkaa.Pure
open Go.RowKit Go.Proofs.Ytpdhoimpbiehkaa.Q Go.Proofs.YtpdhoimpbiehkaaW.PrintWords Go.Proofs.YtpdhoimpbiehkaaW.PrintLast
set_option linter.unusedVariables false
set_option linter.unusedSimpArgs false
theorem FnStreams_at (l : List Int) (i : Int) (h0 : 0 ≤ i) (h1 : i ≤ 8) (hl : l.length ≤ 1048576) (hw : ∀ x ∈ l, (Lit.int .u8 x).wf = true) : ∃ r, laws_at.f l i = some r ∧ 0 ≤ r ∧ r ≤ 255 := by
  unfold laws_at.f
  by_cases h : i < (l.length : Int)
  · rw [if_pos h, if_pos h0]
    have hr : 0 ≤ rd l i ∧ rd l i ≤ 255 := by
      obtain ⟨n, rfl⟩ := Int.eq_ofNat_of_zero_le h0
      have hn : n < l.length := by omega
      rw [rd_eq hn]
      have := hw _ (List.getElem_mem hn)
      have z1 : IntKind.u8.min = 0 := rfl
      have z2 : IntKind.u8.max = 255 := rfl
      simp [Lit.wf] at this
      omega
    exact ⟨_, rfl, by rw [w64 (by omega) (by omega)]; omega, by rw [w64 (by omega) (by omega)]; omega⟩
  · rw [if_neg h]
    have e1 : wrap64 (i * 37) = i * 37 := w64 (by omega) (by omega)
    have e2 : wrap64 ((l.length : Int) * 11) = (l.length : Int) * 11 := w64 (by omega) (by omega)
    rw [e1, e2, w64 (by omega) (by omega)]
    have := M.tmod_cases (i * 37 + (l.length : Int) * 11) 256 (by omega)
    exact ⟨_, rfl, by omega, by omega⟩
theorem meet_left (a b : List Int) : M.meet a b <+: a := by
  induction a generalizing b with
  | nil => simp [M.meet]
  | cons x a ih =>
    cases b with
    | nil => simp [M.meet]
    | cons y b =>
      simp only [M.meet]
      split
      · exact List.cons_prefix_cons.2 ⟨rfl, ih b⟩
      · simp
theorem meet_comm (a b : List Int) : M.meet a b = M.meet b a := by
  induction a generalizing b with
  | nil => cases b <;> rfl
  | cons x a ih =>
    cases b with
    | nil => rfl
    | cons y b =>
      simp only [M.meet]
      by_cases h : x = y
      · rw [if_pos h, if_pos h.symm, ih b, h]
      · rw [if_neg h, if_neg (fun e => h e.symm)]
theorem meet_right (a b : List Int) : M.meet a b <+: b := by rw [meet_comm]; exact meet_left b a
theorem meet_of_prefix (a b : List Int) (h : a <+: b) : M.meet a b = a := by
  induction a generalizing b with
  | nil => cases b <;> rfl
  | cons x a ih =>
    cases b with
    | nil => simp at h
    | cons y b =>
      obtain ⟨e, h2⟩ := List.cons_prefix_cons.1 h
      simp only [M.meet]
      rw [if_pos e, ih b h2]
theorem all_prefix {a b : List Int} (h : a <+: b) (hb : b.all M.tok = true) : a.all M.tok = true := by
  obtain ⟨t, rfl⟩ := h
  simp only [List.all_append, Bool.and_eq_true] at hb
  exact hb.1
theorem str_of (a : List Int) (ha : a.all M.tok = true) (hl : a.length ≤ 400) : M.str a = true := by simp [M.str, ha, hl]
theorem isPre_of (a b : List Int) (ha : M.str a = true) (hb : M.str b = true) : M.isPre a b = true ↔ a <+: b := by
  simp [M.isPre, ha, hb, M.pre_iff]
theorem copy_eq (l : List Int) (h : l.length < 17592186044416) : slices_Clone_Sint_int.f l = some l := by rw [slices_Clone_Sint_int.f, if_pos h]
theorem j0_true (k : Nat) (a b : List Int) (ha : a.all M.tok = true) (hb : b.all M.tok = true) (la : a.length ≤ 10) (lb : b.length ≤ 20) : laws_FnStreams.j0 (k + 3) a b = some true := by
  have sa := str_of a ha (by omega)
  have sb := str_of b hb (by omega)
  have sm := str_of (M.meet a b) (all_prefix (meet_left a b) ha) (by have := M.meet_length a b; omega)
  have sab := str_of (a ++ b) (by simp [ha, hb]) (by simp; omega)
  have e1 : impl_MeetStreams_c.f a b = some (M.meet a b) := by simp [impl_MeetStreams_c.f, sa, sb]
  have e2 : impl_MeetStreams_c.f b a = some (M.meet a b) := by simp [impl_MeetStreams_c.f, sa, sb, meet_comm b a]
  have e3 : impl_AppendStream.f a b = some (a ++ b, true) := by
    have hc : slices_Concat_Sint_int.f [a, b] = some (a ++ b) := by
      rw [slices_Concat_Sint_int.f, if_pos (by simp; omega)]
      simp
    simp [impl_AppendStream.f, hc, impl_IsStream_c.f, sab]
  have p1 : M.isPre a (a ++ b) = true := (isPre_of _ _ sa sab).2 (List.prefix_append a b)
  have e4 : impl_RestOf.f a (a ++ b) = some (b, true) := by
    unfold impl_RestOf.f impl_IsPrefix_c.f
    rw [p1]
    simp only [Option.bind_some, if_true]
    rw [if_pos (by omega), if_pos (by simp; omega)]
    have hd : (a ++ b).drop ((a.length : Int) : Int).toNat = b := by simp
    rw [hd, copy_eq b (by omega)]
    rfl
  have e5 : impl_IsPrefix_c.f (M.meet a b) a = some true := congrArg some ((isPre_of _ _ sm sa).2 (meet_left a b))
  have e6 : impl_IsPrefix_c.f (M.meet a b) b = some true := congrArg some ((isPre_of _ _ sm sb).2 (meet_right a b))
  have e7 : laws_ints_c.f (M.meet a b) (M.meet a b) = some true := congrArg some (by simp)
  have e8 : laws_ints_c.f b b = some true := congrArg some (by simp)
  have e9 : impl_IsPrefix_c.f a a = some true := congrArg some ((isPre_of _ _ sa sa).2 (List.prefix_refl a))
  have e10 : impl_IsPrefix_c.f b b = some true := congrArg some ((isPre_of _ _ sb sb).2 (List.prefix_refl b))
  by_cases hab : M.isPre a b = true
  · have f1 : impl_IsPrefix_c.f a b = some true := congrArg some hab
    have hp := (isPre_of _ _ sa sb).1 hab
    have hj : impl_JoinStreams.f a b = some (b, true) := by simp [impl_JoinStreams.f, f1, copy_eq b (by omega)]
    have hm : M.meet a b = a := meet_of_prefix a b hp
    have hle := hp.length_le
    have hmn : mn (a.length : Int) (b.length : Int) = (a.length : Int) := by unfold mn; split <;> omega
    have hmx : mx (a.length : Int) (b.length : Int) = (b.length : Int) := by unfold mx; split <;> omega
    rw [hm] at e1 e2 e5 e6 e7
    simp only [laws_FnStreams.j0, laws_FnStreams.j1, laws_FnStreams.j2, e1, e2, e3, e4, e5, e6, e7, e8, e9, e10, f1, hj, hmn, hmx, Option.bind_some, if_true, if_false, Bool.not_true, Bool.not_false, Bool.false_eq_true, bne_self_eq_false, beq_self_eq_true]
  · have f1 : impl_IsPrefix_c.f a b = some false := congrArg some (by simpa using hab)
    by_cases hba : M.isPre b a = true
    · have f2 : impl_IsPrefix_c.f b a = some true := congrArg some hba
      have hp := (isPre_of _ _ sb sa).1 hba
      have hj : impl_JoinStreams.f a b = some (a, true) := by simp [impl_JoinStreams.f, f1, f2, copy_eq a (by omega)]
      have hm : M.meet a b = b := by rw [meet_comm]; exact meet_of_prefix b a hp
      have hle := hp.length_le
      have hmn : mn (a.length : Int) (b.length : Int) = (b.length : Int) := by unfold mn; split <;> omega
      have hmx : mx (a.length : Int) (b.length : Int) = (a.length : Int) := by unfold mx; split <;> omega
      rw [hm] at e1 e2 e5 e6 e7
      simp only [laws_FnStreams.j0, laws_FnStreams.j1, laws_FnStreams.j2, e1, e2, e3, e4, e5, e6, e7, e8, e9, e10, f1, f2, hj, hmn, hmx, Option.bind_some, if_true, if_false, Bool.not_true, Bool.not_false, Bool.false_eq_true, bne_self_eq_false, beq_self_eq_true]
    · have f2 : impl_IsPrefix_c.f b a = some false := congrArg some (by simpa using hba)
      have hj : impl_JoinStreams.f a b = some ([], false) := by simp [impl_JoinStreams.f, f1, f2]
      have hne : (((M.meet a b).length : Int) == mn (a.length : Int) (b.length : Int)) = false := by
        rw [beq_eq_false_iff_ne]
        intro h
        unfold mn at h
        split at h
        · have : M.meet a b = b := (meet_right a b).eq_of_length (by omega)
          exact hba ((isPre_of _ _ sb sa).2 (this ▸ meet_left a b))
        · have : M.meet a b = a := (meet_left a b).eq_of_length (by omega)
          exact hab ((isPre_of _ _ sa sb).2 (this ▸ meet_right a b))
      simp only [laws_FnStreams.j0, laws_FnStreams.j1, laws_FnStreams.j2, e1, e2, e3, e4, e5, e6, e7, e8, e9, e10, f1, f2, hj, hne, Option.bind_some, if_true, if_false, Bool.not_true, Bool.not_false, Bool.false_eq_true, bne_self_eq_false, beq_self_eq_true]
theorem FnStreams : laws_FnStreams.Pure := by
  intro l m n w
  clear m n
  by_cases h : (l.length : Int) > 1048576
  · exact ⟨0, by unfold laws_FnStreams.f; rw [if_pos h]⟩
  replace h : l.length ≤ 1048576 := by omega
  obtain ⟨k1, a, ea, ta, la⟩ := stream_some l 10 (by unfold Short; omega) (by omega) (by omega)
  obtain ⟨k2, x, ex, sx⟩ := fresh_some l 3 h
  obtain ⟨k3, b, eb, tb, lb⟩ := stream_some x 10 sx (by omega) (by omega)
  obtain ⟨t1, e1, a1, b1⟩ := FnStreams_at l 1 (by omega) (by omega) h w
  obtain ⟨t2, e2, a2, b2⟩ := FnStreams_at l 2 (by omega) (by omega) h w
  obtain ⟨K, hK⟩ : ∃ K, K = k1 + k2 + k3 := ⟨_, rfl⟩
  have ea' : spec_MakeStream.f (K + 3) l 10 = some a := more_le (fun k => spec_MakeStream.f k l 10) (fun k => spec_MakeStream.mono l 10 k) ea (show k1 ≤ K + 3 by omega)
  have ex' : laws_fresh.f (K + 3) l 3 = some x := more_le (fun k => laws_fresh.f k l 3) (fun k => laws_fresh.mono l 3 k) ex (show k2 ≤ K + 3 by omega)
  have eb' : spec_MakeStream.f (K + 3) x 10 = some b := more_le (fun k => spec_MakeStream.f k x 10) (fun k => spec_MakeStream.mono x 10 k) eb (show k3 ≤ K + 3 by omega)
  have J : ∀ y : List Int, y.all M.tok = true → y.length ≤ 20 → laws_FnStreams.j0 (K + 3) a y = some true := fun y hy hl => j0_true K a y ta hy (by omega) hl
  clear ea ex eb hK
  refine ⟨K + 3, ?_⟩
  generalize K + 3 = K3 at ea' ex' eb' J ⊢
  have hn : ¬ (l.length : Int) > 1048576 := by omega
  have hw : wrap64 ((a.length : Int) + 1) = (a.length : Int) + 1 := w64 (by omega) (by omega)
  have hz : ¬ wrap64 ((a.length : Int) + 1) = 0 := by rw [hw]; omega
  have hr := tmod_below t2 ((a.length : Int) + 1) a2 (by omega)
  rw [← hw] at hr
  replace hr : 0 ≤ Int.tmod t2 (wrap64 ((a.length : Int) + 1)) ∧ Int.tmod t2 (wrap64 ((a.length : Int) + 1)) ≤ (a.length : Int) := ⟨hr.1, by have := hr.2; rw [hw] at this; rw [hw]; omega⟩
  have hr2 := hr.2
  unfold laws_FnStreams.f
  rw [if_neg hn, ea', Option.bind_some, ex', Option.bind_some, eb', Option.bind_some, e1, Option.bind_some, e2]
  by_cases h2 : Int.tmod t1 2 = 0
  · rw [if_pos h2, Option.bind_some, Option.bind_some, if_neg hz]
    generalize Int.tmod t2 (wrap64 ((a.length : Int) + 1)) = T at hr hr2 ⊢
    rw [if_pos hr.1, if_pos hr2, Option.bind_some]
    have tT : (a.take T.toNat).all M.tok = true := all_prefix (List.take_prefix _ a) ta
    have lT : (a.take T.toNat).length ≤ 10 := by rw [List.length_take]; omega
    generalize a.take T.toNat = y at tT lT ⊢
    have h5 : ([] : List Int).length + y.length < 17592186044416 := by simp only [List.length_nil]; omega
    have h6 : ([] ++ y).length + b.length < 17592186044416 := by simp only [List.nil_append]; omega
    rw [if_pos h5, Option.bind_some, if_pos h6]
    refine J _ ?_ ?_
    · simp only [List.nil_append, List.all_append, tb, tT, Bool.and_self]
    · simp only [List.nil_append, List.length_append]; omega
  · rw [if_neg h2]
    exact J b tb (by omega)
end Go.Proofs.Ytpdhoimpbiehkaa.Pure

namespace Go.Proofs.Ytpdhoimpbiehkaa.fnStreams
open Go.ChangeShapes Go.WideShapes Go.ChangeAt Go.RowKit
open Go.ChangeMaps (open_string shut_string)
set_option linter.unusedVariables false
theorem own : ownKnob Try.prog.godebug = none := by kernel_rfl
theorem laidOut : laidOutB Try.prog = true := by kernel_rfl
def IsRow (k : IntKind) (w : World) (a : Option Addr) (len cap : Nat) (zs : List Int) : Prop :=
  (a = none ∧ len = 0 ∧ cap = 0 ∧ zs = []) ∨
  ∃ x, a = some x ∧ len ≤ cap ∧ cap ≤ maxLen ∧ zs.length = cap ∧ (∀ i, i < zs.length → w.cell? (x.add i) = some (.int k (zs.getD i 0))) ∧ ∀ n ∈ zs, (Lit.int k n).wf = true
set_option maxRecDepth 100000 in
theorem lifted (os : Os) (started : os.Started) (H : Type) (enc : TypeId × Value → H) :
    ReturnsInHanded {} Try.checked os 20 .any (Rows.fnStreamsSpec.pre6 enc Try.prog Try.f20 Rows.fnStreamsRow.domain false) (Rows.fnStreamsSpec.post enc Try.prog Try.f20 false true false false) := by
  refine returnsInHanded_of_change_sized (C := Try.checked) own started (by kernel_rfl) Try.func20
    (ChangeSpec.witness6 (enc := enc) (C := Try.checked) false ⟨#[], #[.slice none 0 0], []⟩ 8 (by kernel_rfl) (by kernel_rfl) (by kernel_rfl) (by kernel_rfl)) ?_
  intro W base args ds gs before hval0 hW hcnd hsz0 _
  have hsz : (DataW.weightsEach Try.prog (Try.f20.params.toList ++ Rows.fnStreamsSpec.plain.varTypes Try.prog) (ds ++ gs)).all (· ≤ reachBytes) = true := hsz0
  have hval : ∀ (j : Nat) t v, Try.f20.params[j]? = some t → args[j]? = some v → Value.okWide Try.prog W .any base t v := hval0
  have hW' := hW
  obtain ⟨p, q, hA0, hV, rfl, hfz, hnd⟩ := hW
  have hA : DataW.TrodAll enc Try.prog W 0 (fun _ => true) true Try.f20.params.toList args.toList ds p := hA0
  rw [Try.params20] at hA hval hsz
  obtain ⟨v0, vs0, d0, ds0, p0, q0, hargs, rfl, rfl, h0, r0⟩ := trodAll_cons hA
  obtain ⟨rfl, rfl, rfl⟩ := trodAll_nil r0
  obtain rfl : args = #[v0] := by cases args; simp_all
  obtain ⟨rfl, rfl⟩ := trodVars_none hV
  obtain ⟨a0, len0, cap0, rfl⟩ := okWide_slice Try.underlying25 (hval 0 25 v0 rfl rfl)
  have k0 := h0
  have lt0 : ∀ x ∈ p0, x.block < W.heap.size := by obtain ⟨m, hm⟩ := k0; exact DataW.trod_lt m _ _ _ hm
  obtain ⟨z0, w0⟩ : ∃ zs, IsRow .u8 W a0 len0 cap0 zs := by
    obtain ⟨fuel, hf⟩ := h0
    rcases open_ints Try.underlying25 Try.underlying5 (by kernel_rfl) hf with ⟨hcs, _⟩ | ⟨x, l, c, zs, hcs, _, hl, hm, hz, _, hcell, hwz⟩
    · simp [Value.cells] at hcs
      obtain ⟨rfl, rfl, rfl⟩ := hcs
      exact ⟨[], .inl ⟨rfl, rfl, rfl, rfl⟩⟩
    · simp [Value.cells] at hcs
      obtain ⟨rfl, rfl, rfl⟩ := hcs
      exact ⟨zs, .inr ⟨_, rfl, hl, hm, by simpa using hz, hcell, hwz⟩⟩
  have y0 : len0 * 1 ≤ 140737488351232 := Go.Proofs.YtpdhoimpbiehkaaW.PrintWords.sized_ints hsz (j := 0) (t := 25) rfl rfl Try.underlying25 Try.underlying5 (by kernel_rfl) (by kernel_rfl) h0
  clear hA0 hval0 hsz0 hsz
  refine (Q.laws_FnStreams.walk Pure.FnStreams a0 len0 cap0 z0 W w0 y0).mono fun e W' ⟨he, bel⟩ => ?_
  subst he
  exact ⟨_, rfl, _, _, _, [], _, [], hW', trodAll_mk1 (shut_bool Try.underlying4 _), (trodAll_cons_mk (Below.trod laidOut (by kernel_rfl) (of_decide_eq_true (by kernel_rfl)) k0 bel lt0) trodAll_mk0), rfl, bel.frame _, fun h => by cases h⟩
theorem facts : joinedFacts Try.checked.prog 20 Try.f20 Rows.fnStreamsSpec Rows.fnStreamsRow = true := by
  unfold joinedFacts
  repeat' (with_reducible apply Facts.and_mk)
  all_goals (first | (with_reducible exact Facts.laidOut) | (with_reducible exact Facts.mayEnter) | (rw [Facts.liftsFinal]; rfl) | (rw [Facts.make]; rfl) | (as_aux_lemma => kernel_rfl))
theorem over : Rows.fnStreamsRow.holds Try.pinned (OpenSpec.ofChange Rows.fnStreamsSpec) :=
  OpenClaim.holds_of_wide 20 Try.f20 rfl rfl rfl rfl rfl rfl rfl ⟨rfl, rfl, rfl, rfl, rfl⟩ rfl rfl rfl rfl rfl (by kernel_rfl) Try.func20 facts
    (of_decide_eq_true (by kernel_rfl)) (by unfold Func.isWrapper; first | (rw [if_pos (by decide +kernel)]; kernel_rfl) | (rw [if_neg (by decide +kernel)]; exact ⟨rfl, rfl⟩))
    (fun os started H enc _ => lifted os started H enc)
theorem proved : Rows.FnStreamsSaid := over
#print axioms proved
end Go.Proofs.Ytpdhoimpbiehkaa.fnStreams
namespace Go.Proofs.Ytpdhoimpbiehkaa
/-- The row, under a short name, for the claim. -/
theorem fnStreams_holds : Rows.FnStreamsSaid := fnStreams.proved
end Go.Proofs.Ytpdhoimpbiehkaa
