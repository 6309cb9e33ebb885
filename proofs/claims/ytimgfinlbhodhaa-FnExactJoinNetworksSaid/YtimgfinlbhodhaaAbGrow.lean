/- Room for elements: the length of nil's memory, nil cut, nil grown by a number of zeros. -/
import Derived.Test.YtimgfinlbhodhaaFwB
namespace Go.Proofs.Ytimgfinlbhodhaa.Ab
open Go
set_option linter.unusedVariables false
set_option linter.unusedSimpArgs false
section
variable {c : Cx} {k : List It} {st st' : St} {all : Array Oper} {o : Oper} {l : List Oper}
theorem G.capNil {t e : Nat} {x : Operand} (hT : c.T.ok c.P) (hg : o.guard = none) (ho : o.op = .call { callee := .builtin .cap, args := #[x], argTypes := #[t] }) (hk : (c.T t).map TI.kind = some (TK.slice e)) (hx : ev st.env x = .nils)
  (hp : st.putO o.dst (.int .i64 0) = some st') (h : G c (.ops all l :: k) st') : G c (.ops all (o :: l) :: k) st := by
 refine G.opV hg (fun a w φ fs hr => ?_) hp h
 obtain ⟨i, hi, hkk, hf⟩ := kind_some hT hk
 have hu := under_slice hf hkk
 have hv := ev_rel hr x
 rw [hx] at hv
 generalize hq : a.eval x = xv at hv
 cases hv
 refine ⟨.int .i64 0, ?_, .int _ _⟩
 unfold execOp
 rw [ho]
 simp [resolve, invoke, builtin, hq, Builtin.cap_, run_underlying hu, goInt]
theorem G.cutNil {t e : Nat} {x y : Operand} {i0 : TI} (hT : c.T.ok c.P) (hg : o.guard = none) (ho : o.op = .slice t x none (some y) none) (hk : (c.T t).map TI.kind = some (TK.slice e)) (hi0 : c.T e = some i0) (hx : ev st.env x = .nils) (hy : ev st.env y = .int .i64 0)
  (hp : st.putO o.dst .nils = some st') (h : G c (.ops all l :: k) st') : G c (.ops all (o :: l) :: k) st := by
 refine G.opV hg (fun a w φ fs hr => ?_) hp h
 obtain ⟨it, h1, h2, hf⟩ := kind_some hT hk
 have hu := under_slice hf h2
 have hel := elem_of hu
 have hu' : c.P.underlying t = some (.slice (c.P.elem t)) := by rw [hel]; exact hu
 have hv := ev_rel hr x
 rw [hx] at hv
 generalize hq : a.eval x = xv at hv
 cases hv
 refine ⟨.slice none 0 0, ?_, .nils⟩
 obtain ⟨q1, q2, q3⟩ := bnd_run (P := c.P) hr (len := 0) (cap := 0) (l := 0) (n := 0) (lo := none) (hi := some y) (by simp [abnd, bhi, blo, hy]) (Nat.le_refl _)
 have hrun : (Instr.sliceAt t (.slice none 0 0) none (some (a.eval y)) none).run c.P w = .ok (.slice none 0 0) w := by
  rw [run_sliceAt_slice (P := c.P) w t _ _ _ _ hu', run_slice_any (P := c.P) w t none 0 0 hu']
  have q4 : (Instr.sliceBounds true 0 0 none (some (a.eval y)) none).run c.P w = .ok (0, 0, 0) w := q3
  rw [q4]
  simp only [Result.andThen]
  rw [hel, run_sizeOf_fit (hT _ _ hi0) w]
  rfl
 unfold execOp
 rw [ho]
 simp only [hq, Option.map_none, Option.map_some, Sem.run_bind, hrun, Result.andThen_ok, Sem.run_pure]
theorem app_zeros {P : Program} {w : World} (t ti ty e : TypeId) (kk : IntKind) (i : TypeInfo) (z : Value) (ht : P.underlying t = some (.slice e)) (hti : P.underlying ti = some (.int kk)) (hi : P.info? e = some i) (hz : i.zero = some z) (m : Nat) (hm : 0 < m) (hw : IntKind.i64.wrap (m : Int) = (m : Int)) (h63 : (m : Int) ≤ 9223372036854775807) (hfit : m * i.bytes ≤ 281474976710656) :
  (Builtin.append_ #[t, ti] ty #[.slice none 0 0, .int .i64 (m : Int)]).run P w =
   .ok (.slice (some ⟨w.heap.size, 0, none⟩) m (grownCap w m 0 e)) (w.drew.alloc (.cells ((if m * i.size = 0 then #[] else Builtin.zeroCells z.cells m) ++ Builtin.zeroCells z.cells (grownCap w m 0 e - m)) e)) := by
 have h0 : ¬ ((m : Int) < 0) := by omega
 have h1 : ¬ (281474976710656 < (m : Int) * (i.bytes : Int)) := by
  have : ((m * i.bytes : Nat) : Int) ≤ ((281474976710656 : Nat) : Int) := Int.ofNat_le.2 hfit
  rw [Int.natCast_mul] at this
  omega
 have hn : ¬ (m = 0) := by omega
 have h63' : ¬ (9223372036854775807 < (m : Int)) := by omega
 have hcap : Builtin.nextslicecap m 0 = m := by unfold Builtin.nextslicecap; rw [if_pos (by omega)]
 have h48' : ¬ (281474976710656 < m * i.bytes) := by omega
 by_cases hs : m * i.size = 0
 ·have hs2 : i.size = 0 := by
   rcases Nat.mul_eq_zero.1 hs with h | h
   ·omega
   ·exact h
  simp [Builtin.append_, run_underlying ht, run_underlying hti, sizeOf, typeInfo, zeroValue, hi, hz, asInt, asIntOf, hw, h0, h1, hn, h63', hcap, h48', Question.forced, newRow, grownCap, Builtin.firstCells, hs2]
 ·have hs2 : ¬ i.size = 0 := fun e => hs (by rw [e, Nat.mul_zero])
  simp [Builtin.append_, run_underlying ht, run_underlying hti, sizeOf, typeInfo, zeroValue, hi, hz, asInt, asIntOf, hw, h0, h1, hn, h63', hcap, h48', Question.forced, newRow, grownCap, Builtin.firstCells, hs2]
  rw [if_neg hs, if_neg hs]
theorem relAny {w : World} {S : Nat → Prop} {φ : List (Option Loc)} : ∀ us : List Value, RelL w S φ (List.replicate us.length A.any) us []
 | [] => .nil
 | u :: us => .cons (f := []) (fs := []) (.any u) (relAny us)
theorem G.growNil {t ti e : Nat} {x y : Operand} {m : Nat} {i0 : TI} {kk : IntKind} (hT : c.T.ok c.P) (hg : o.guard = none) (ho : o.op = .call { callee := .builtin .append, args := #[x, y], argTypes := #[t, ti] }) (hk : (c.T t).map TI.kind = some (TK.slice e)) (hi0 : c.T e = some i0) (hti : (c.T ti).map TI.kind = some (TK.int kk))
  (hx : ev st.env x = .nils) (hy : ev st.env y = .int .i64 (m : Int)) (hm : 0 < m) (hw : IntKind.i64.wrap (m : Int) = (m : Int)) (h63 : (m : Int) ≤ 9223372036854775807) (hfit : m * i0.bytes ≤ 281474976710656)
  (hp : (withH st (st.heap ++ [some (i0.size, List.replicate m (List.replicate i0.size A.any))])).putO o.dst (.sl st.heap.length 0 m) = some st') (h : G c (.ops all l :: k) st') : G c (.ops all (o :: l) :: k) st := by
 intro a w φ fs hr hb
 obtain ⟨it, hit, hkk, hf⟩ := kind_some hT hk
 have hu := under_slice hf hkk
 obtain ⟨it2, hit2, hkk2, hf2⟩ := kind_some hT hti
 have hu2 := under_int hf2 hkk2
 obtain ⟨d, inf, z, q1, q2, q3, q4, q5, q6, q7, q8⟩ := fits_info (hT _ _ hi0)
 have hzs : z.cells.size = i0.size := by have := (simples_rel (w := w) (S := Sof c.S0 fs) (φ := φ) q7).length; rw [q8] at this; simpa using this.symm
 have hv := ev_rel hr x
 rw [hx] at hv
 generalize hq : a.eval x = xv at hv
 cases hv
 have hv2 := ev_rel hr y
 rw [hy] at hv2
 generalize hq2 : a.eval y = yv at hv2
 cases hv2
 have hrun := app_zeros (P := c.P) (w := w) t ti o.type e kk inf z hu hu2 q2 q6 m hm hw h63 (by rw [q5]; exact hfit)
 obtain ⟨us, hus⟩ : ∃ us : List Value, (if m * inf.size = 0 then #[] else Builtin.zeroCells z.cells m) = us.toArray := ⟨_, rfl⟩
 have hul : us.length = m * i0.size := by
  have := congrArg Array.size hus
  simp only [List.size_toArray] at this
  rw [← this, q4]
  split
  ·rename_i h0; rw [h0]; rfl
  ·simp [Builtin.zeroCells, hzs]
 have hfl : (List.replicate m (List.replicate i0.size A.any)).flatten = List.replicate us.length A.any := by rw [hul]; exact List.flatten_replicate_replicate
 obtain ⟨fs', φ', g1, g2, g3, g4, g5⟩ := app_fresh hr (base := st.heap.length) (k := none) (f1 := fs) (fk := []) (f2 := []) (by simp) (.inl rfl) ⟨st.heap, rfl, .inl rfl, by simpa using hr.heap⟩ (hT _ _ hi0) (xs := []) (ys := List.replicate m (List.replicate i0.size A.any)) (vs := []) (us := us) (f0 := [])
  (by simp) (fun x hx => by rw [(List.mem_replicate.1 hx).2]; simp) .nil (by rw [hfl]; exact relAny us) (by simp) (by simp) (cap := grownCap w m 0 e) (by simpa using grownCap_ge w m 0 e) z.cells hzs e
 have hexec : (execOp a.eval o).run c.P w = .ok (.value (.slice (some ⟨w.heap.size, 0, none⟩) m (grownCap w m 0 e))) (w.drew.alloc (.cells (([] : List Value).toArray ++ us.toArray ++ Builtin.zeroCells z.cells (grownCap w m 0 e - (([] : List (List A)).length + (List.replicate m (List.replicate i0.size A.any)).length))) e)) := by
  unfold execOp
  rw [ho]
  simp only [resolve, invoke, builtin, Sem.run_bind, Sem.run_pure, Result.andThen_ok, List.map_toArray, List.map_cons, List.map_nil, hq, hq2]
  rw [hrun, hus]
  simp
 show wpList c.P all (cont c.P k c.Q) (o :: l) a w
 simp only [wpList]
 rw [if_pos (by simp [Region.wanted, hg])]
 refine .inl ?_
 unfold Oper.wp
 rw [hexec]
 have hpp : ({ st with heap := hput (hkill st.heap none) st.heap.length (i0.size, [] ++ List.replicate m (List.replicate i0.size A.any)) } : St).putO o.dst (.sl st.heap.length 0 m) = some st' := by
  rw [← hp]
  simp [hput, hkill, withH]
 have g5' : Rel (w.drew.alloc (.cells (([] : List Value).toArray ++ us.toArray ++ Builtin.zeroCells z.cells (grownCap w m 0 e - (([] : List (List A)).length + (List.replicate m (List.replicate i0.size A.any)).length))) e)) (Sof c.S0 fs') φ' (.sl st.heap.length 0 m) (.slice (some ⟨w.heap.size, 0, none⟩) m (grownCap w m 0 e)) [] := by
  simpa using g5
 exact h _ _ φ' fs' (g1.putO g5' hpp) (hb.step g2 (fun _ h => h) g3 g4)
end
end Go.Proofs.Ytimgfinlbhodhaa.Ab
