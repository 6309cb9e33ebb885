/- append. -/
import Derived.Test.YtpdhoimpbiehkaaAbSto
import Derived.Laws.Append
import Derived.Laws.AppendOwn
namespace Go.Proofs.Ytpdhoimpbiehkaa.Ab
open Go
set_option linter.unusedVariables false
set_option linter.unusedSimpArgs false

section
variable {P : Program} {T : Tab} {S0 : Nat → Prop} {st : St} {a : Act} {w : World} {φ : List (Option Loc)} {fs : List Nat}

theorem app_room (t ty e : TypeId) (i : TypeInfo) (ht : P.underlying t = some (.slice e)) (hi : P.info? e = some i) (ao : Option Addr) (sLen sCap n c : Nat) (ax : Option Addr) (news : List Value)
    (hx : (Builtin.firstCells i.size n (.slice ax n c)).run P w = .ok news.toArray w) (hroom : sLen + n ≤ sCap) :
    (Builtin.append_ #[t, t] ty #[.slice ao sLen sCap, .slice ax n c]).run P w = (match ao with | none => .ok (.slice none (sLen + n) sCap) w | some b => ((storeCells (b.add (sLen * i.size)) news).run P w).andThen fun _ w' => .ok (.slice (some b) (sLen + n) sCap) w') := by
  cases ao with
  | none => simp [Builtin.append_, run_underlying ht, sizeOf, typeInfo, hi, Builtin.lenOf, hroom, hx]
  | some b => simp [Builtin.append_, run_underlying ht, sizeOf, typeInfo, hi, Builtin.lenOf, hroom, hx]
theorem app_grow (t ty e : TypeId) (i : TypeInfo) (z : Value) (ht : P.underlying t = some (.slice e)) (hi : P.info? e = some i) (hz : i.zero = some z) (ao : Option Addr) (sLen sCap n c : Nat) (ax : Option Addr) (olds news : List Value)
    (ho : (Builtin.firstCells i.size sLen (.slice ao sLen sCap)).run P w.drew = .ok olds.toArray w.drew) (hx : (Builtin.firstCells i.size n (.slice ax n c)).run P w.drew = .ok news.toArray w.drew)
    (hg : sCap < sLen + n) (h63 : ((sLen + n : Nat) : Int) ≤ 9223372036854775807) (hfit : Builtin.nextslicecap (sLen + n) sCap * i.bytes ≤ 281474976710656) :
    (Builtin.append_ #[t, t] ty #[.slice ao sLen sCap, .slice ax n c]).run P w =
      .ok (.slice (some ⟨w.heap.size, 0, none⟩) (sLen + n) (grownCap w (sLen + n) sCap e)) (w.drew.alloc (.cells (olds.toArray ++ news.toArray ++ Builtin.zeroCells z.cells (grownCap w (sLen + n) sCap e - (sLen + n))) e)) := by
  have hn : ¬ (sLen + n ≤ sCap) := by omega
  have h63' : ¬ (9223372036854775807 < ((sLen : Int) + (n : Int))) := by omega
  have h48' : ¬ (281474976710656 < Builtin.nextslicecap (sLen + n) sCap * i.bytes) := by omega
  simp [Builtin.append_, run_underlying ht, sizeOf, typeInfo, zeroValue, hi, hz, Builtin.lenOf, hn, h63', h48', Question.forced, hx, ho, newRow, grownCap]
  congr 2
  apply Array.ext'
  simp [List.append_assoc]

/-- What a value reads as, element for element. -/
def srcOf (h : Heap) (size : Nat) : A → Option (List (List A))
  | .nils => some []
  | .row false sz es => if sz = size then some es else none
  | .sl m lo len => if bsz h m = some size ∧ lo + len ≤ (bes h m).length then some (((bes h m).drop lo).take len) else none
  | _ => none
def copyable (c : A) : Bool := okc c && notOwn c
def aappend (T : Tab) (env : List (Nat × A)) (h : Heap) : Op → Option (Blk × Option Nat)
  | .call c => match c.callee, c.args.toList, c.argTypes.toList with
    | .builtin .append, [s, x], [t, t'] => match (T t).map TI.kind with
      | some (TK.slice e) => match T e with
        | some i => match srcOf h i.size (ev env s), srcOf h i.size (ev env x) with
          | some xs, some ys =>
            if t = t' ∧ i.size ≠ 0 ∧ ys.all (fun y => y.all copyable) = true ∧ ((xs.length + ys.length : Nat) : Int) ≤ 4611686018427387904 ∧ (xs.length + ys.length) * i.bytes ≤ 70368744177664 then
              match ev env s with
              | .nils => some ((i.size, xs ++ ys), none)
              | .sl m _ _ => some ((i.size, xs ++ ys), some m)
              | _ => none
            else none
          | _, _ => none
        | none => none
      | _ => none
    | _, _, _ => none
  | _ => none

theorem firstCells_run (size n c : Nat) (ad : Option Addr) (vs : List Value) (hl : vs.length = n * size) (hc : ∀ (x : Addr), ad = some x → ∀ (k : Nat) (v : Value), vs[k]? = some v → w.cell? (x.add k) = some v) (hn : ad = none → vs = []) :
    (Builtin.firstCells size n (.slice ad n c)).run P w = .ok vs.toArray w := by
  cases ad with
  | none => rw [hn rfl]; simp [Builtin.firstCells]
  | some x => exact run_firstCells_some (P := P) w size n x n c vs hl (hc x rfl)

/-- A source's cells. -/
theorem src_run (h : SRel S0 st a w φ fs) {size : Nat} {x : A} {v : Value} {ys : List (List A)} (hs : srcOf st.heap size x = some ys) (hx : Rel w (Sof S0 fs) φ x v []) :
    ∃ ad c vs f, v = .slice ad ys.length c ∧ ys.length ≤ c ∧ (∀ e ∈ ys, e.length = size) ∧ RelL w (Sof S0 fs) φ ys.flatten vs f ∧ (∀ (b : Addr), ad = some b → ∀ (k : Nat) (u : Value), vs[k]? = some u → w.cell? (b.add k) = some u) ∧ (ad = none → vs = []) := by
  cases x <;> simp only [srcOf, reduceCtorEq] at hs
  case nils => injection hs with hs; subst hs; cases hx; exact ⟨none, 0, [], [], rfl, Nat.le_refl _, by simp, .nil, by simp, fun _ => rfl⟩
  case row own sz es =>
    cases own <;> simp only [reduceCtorEq] at hs
    split at hs
    · rename_i hz
      injection hs with hs
      subst hs hz
      obtain ⟨ad, cap, rfl, hcap, hf⟩ := row_form hx
      by_cases he : es = []
      · subst he
        exact ⟨ad, cap, [], [], rfl, hcap, by simp, .nil, by simp, fun _ => rfl⟩
      · obtain ⟨x, vs, rfl, hu, hr, hc⟩ := hf 0 (List.length_pos_iff.2 he)
        exact ⟨_, cap, vs, [], rfl, hcap, hu, hr.up, fun b hb k u hk => by injection hb with hb; subst hb; exact (hc k u hk).1, fun hn => by cases hn⟩
    · cases hs
  case sl m lo len =>
    split at hs
    · rename_i hcond
      injection hs with hs
      obtain ⟨hb, hle⟩ := hcond
      obtain ⟨ad, c, rfl, hc, l, hm, had⟩ := sl_form hx
      have hlen : ys.length = len := by rw [← hs]; simp; omega
      unfold bsz at hb
      unfold bes at hs hle
      split at hb
      · rename_i b hbm
        obtain ⟨sz, es⟩ := b
        injection hb with hb
        simp only [hbm] at hs hle
        simp only at hb
        subst hb
        by_cases hz : len = 0
        · have : ys = [] := List.eq_nil_of_length_eq_zero (by omega)
          subst this
          rw [hz]
          exact ⟨ad, c, [], [], by simp, Nat.zero_le _, by simp, .nil, by simp, fun _ => rfl⟩
        · have hne : es ≠ [] := by rintro rfl; simp at hle; omega
          obtain ⟨l', arr, ty, vs, f0, q1, q2, q3, q4, q5, q6, q7, q8, q9⟩ := h.setBlk hbm hne
          have : l' = l := by rw [q1] at hm; injection hm with e1; injection e1
          subst this
          obtain ⟨g1, g2, g3, e1, _, r2, _⟩ := q6.window (lo * sz) (len * sz)
          have hfl : (es.flatten.drop (lo * sz)).take (len * sz) = ys.flatten := by rw [flat_drop q5, flat_take (uni_drop q5 lo), hs]
          rw [hfl] at r2
          refine ⟨ad, c, _, g2, by rw [hlen], by omega, by rw [← hs]; exact uni_take (uni_drop q5 lo) len, r2, ?_, fun hn => by rw [had (by omega)] at hn; cases hn⟩
          intro b hb k u hk
          rw [had (by omega)] at hb
          injection hb with hb
          subst hb
          have hk2 : vs[lo * sz + k]? = some u := by
            by_cases hlt : k < len * sz
            · rwa [List.getElem?_take_of_lt hlt, List.getElem?_drop] at hk
            · rw [List.getElem?_eq_none (by simp; omega)] at hk; cases hk
          rw [add_mk, q2]
          simp only [World.cell?, q3]
          rw [← q7 _ _ hk2]
          simp [Nat.add_assoc]
      · cases hb
    · cases hs
end
end Go.Proofs.Ytpdhoimpbiehkaa.Ab
