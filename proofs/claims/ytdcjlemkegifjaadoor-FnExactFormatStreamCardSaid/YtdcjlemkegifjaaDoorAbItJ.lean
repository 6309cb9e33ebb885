/- strconv.Itoa and strings.Join, as abstract values tell them. -/
import Derived.Test.YtdcjlemkegifjaaDoorAbShA
import Derived.Test.YtdcjlemkegifjaaDoorAbNum
import Derived.Lib.QuietBelow
namespace Go.Proofs.YtdcjlemkegifjaaDoor.Ab
open Go Go.Proofs Go.RowKit
set_option linter.unusedVariables false
set_option linter.unusedSimpArgs false
theorem fr_below {w w' : World} (h : Below w.heap.size w w') : Fr (fun _ => False) w w' := ⟨h.os, h.tape, h.output, h.size, fun k hk _ => h.block k hk⟩
def TabC (w : World) : Prop := Lib.TabIs Tryd.prog w "internal/strconv.uint64pow10" .u64 Lib.pow10Tab
theorem itoaW {n : Int} (h0 : -4611686018427387904 ≤ n) (h1 : n ≤ 4611686018427387904) : ACw TabC Tryd.prog 16 [.int .i64 n] (.str (sb (Lib.itoa n))) := by
 intro w S0 vs hC hl hr
 obtain ⟨v, vs', rfl, hv, hr2⟩ : ∃ v vs', vs = v :: vs' ∧ v = .int .i64 n ∧ vs' = [] := by
  generalize hf : ([] : List Nat) = f at hr
  cases hr with | cons h hs => cases h; cases hs; exact ⟨_, _, rfl, rfl, rfl⟩
 subst hv hr2
 refine (Any.strconv_Itoa laysM171 n (by omega) (by omega) w hC).mono ?_
 rintro e w' ⟨rfl, k, os, rfl⟩
 refine ⟨_, [], rfl, .str _, by simp, by simp, ?_⟩
 refine ⟨rfl, rfl, rfl, ?_, fun b hb _ => ?_⟩
 ·show w.heap.size ≤ (w.heap ++ os).size
  simp
 ·show (w.heap ++ os)[b]? = w.heap[b]?
  rw [Array.getElem?_append_left hb]
theorem var_lasts {P : Program} {w w' : World} {n : String} {cs : Array Value} (hw : Fr (fun _ => False) w w') (h : w.var? P n = some cs) : w'.var? P n = some cs := by
 unfold World.var? at *
 cases hg : P.globalNamed n with
 | none => simp [hg] at h
 | some g =>
  simp only [hg, Option.bind_some] at h ⊢
  have hlt : g < w.heap.size := by
   rcases Nat.lt_or_ge g w.heap.size with h' | h'
   ·exact h'
   ·rw [Array.getElem?_eq_none h'] at h; simp at h
  rw [hw.block g hlt (fun h => h)]
  exact h
theorem tab_lasts : Lasts TabC := fun w w' hw h => var_lasts hw h
theorem en_itoa : Enters Tryd.prog 16 := enters_of Tryd.func16 rfl rfl
def sv (l : List UInt8) : List A := [.str (sb l)]
theorem sv_inj {a b : List (List UInt8)} : a.map sv = b.map sv ↔ a = b := by
 constructor
 ·intro h
  induction a generalizing b with
  | nil => cases b with | nil => rfl | cons y b => simp at h
  | cons x a ih =>
   cases b with
   | nil => simp at h
   | cons y b =>
    simp only [List.map_cons, List.cons.injEq] at h
    have h1 := h.1
    simp only [sv, List.cons.injEq, A.str.injEq, and_true] at h1
    have h2 := congrArg bl h1
    rw [bl_sb, bl_sb] at h2
    rw [h2, ih h.2]
 ·rintro rfl; rfl
theorem pureLL_sv (l : List (List UInt8)) : pureLL (l.map sv) = true := pureLL_all (fun _ => rfl) l
theorem roLL_sv (l : List (List UInt8)) : roLL (l.map sv) = l.map sv := roLL_all (fun _ => rfl) l
theorem noLoanLL_sv (l : List (List UInt8)) : noLoanLL (l.map sv) = true := noLoanLL_all (fun _ => rfl) l
theorem rnLL_sv (s : List Nat) (l : List (List UInt8)) : rnLL s (l.map sv) = l.map sv := rnLL_pure (pureLL_sv l)
theorem refsLL_sv (l : List (List UInt8)) : refsLL (l.map sv) = [] := refsLL_pure (pureLL_sv l)
theorem join_cells {w : World} {S : Nat → Prop} {xs : List (List UInt8)} {vs : List Value} (hr : RelL w S [] ((xs.map sv).flatten) vs []) : vs = xs.map fun l => Value.string (sb l) := by
 induction xs generalizing vs with
 | nil => generalize hf : ([] : List Nat) = f at hr; cases hr; rfl
 | cons x xs ih =>
  simp only [List.map_cons, sv, List.flatten_cons, List.cons_append, List.nil_append] at hr
  generalize hf : ([] : List Nat) = f at hr
  cases hr with
  | cons h hs =>
   have e := List.append_eq_nil_iff.1 hf.symm
   rw [e.2] at hs
   cases h
   rw [List.map_cons, ← ih hs]
theorem joinW {xs : List (List UInt8)} (hN : xs.length ≤ 140737488355328) (hlen : (Lib.join xs [44]).length ≤ 140737488355328) : AC Tryd.prog 17 [.row false 1 (xs.map sv), .str ⟨#[44]⟩] (.str (sb (Lib.join xs [44]))) := by
 intro w S0 vs hl hr
 obtain ⟨v, rfl, hv⟩ : ∃ v, vs = [v, .string ⟨#[44]⟩] ∧ Rel w S0 [] (.row false 1 (xs.map sv)) v [] := by
  generalize hf : ([] : List Nat) = f at hr
  cases hr with
  | cons h hs =>
   have e := List.append_eq_nil_iff.1 hf.symm
   obtain ⟨e1, e2⟩ := e
   subst e1 e2
   generalize hf2 : ([] : List Nat) = f2 at hs
   cases hs with | cons h2 hs2 => cases h2; cases hs2; exact ⟨_, rfl, h⟩
 obtain ⟨ad, cap, rfl, hcap, hform⟩ := row_form hv
 rw [List.length_map] at hcap
 cases xs with
 | nil =>
  refine (strings_Join_none ad cap ⟨#[44]⟩ w).mono ?_
  rintro e w' ⟨rfl, rfl⟩
  exact ⟨_, [], rfl, .str _, by simp, by simp, Fr.refl _ _⟩
 | cons x xs =>
  obtain ⟨a, vs, rfl, hu, hrl, hc⟩ := hform 0 (by simp)
  have hvs := join_cells hrl
  subst hvs
  have h0 := (hc 0 (.string (sb x)) rfl).1
  obtain ⟨b, o, sp⟩ := a
  have hsp : sp = none := by
   have e0 : (⟨b, o, sp⟩ : Addr).add 0 = ⟨b, o, sp⟩ := by simp [Addr.add]
   rw [e0] at h0
   unfold World.cell? at h0
   split at h0
   ·split at h0
    ·cases h0
    ·rename_i h1; simpa using h1
   ·cases h0
  subst hsp
  have key := strings_Join b o cap ((x :: xs).map sb) ⟨#[44]⟩ w (fun j y hj => by
    have := (hc j (.string y) (by
     rw [List.getElem?_map] at hj ⊢
     cases hx : (x :: xs)[j]? with
     | none => rw [hx] at hj; cases hj
     | some z => rw [hx] at hj; injection hj with hj; rw [← hj]; rfl)).1
    rwa [add_mk] at this) (by have := cell_lt h0; simpa [Addr.add] using this) (by simpa using hN) (by simpa using hcap)
    (by rw [List.map_map, show ((fun s : ByteArray => s.data.toList) ∘ sb) = id from rfl, List.map_id]; exact hlen)
  rw [List.map_map, show ((fun s : ByteArray => s.data.toList) ∘ sb) = id from rfl, List.map_id] at key
  simp only [List.length_map] at key ⊢
  refine key.mono ?_
  rintro e w' ⟨rfl, hb⟩
  exact ⟨_, [], rfl, .str _, by simp, by simp, fr_below hb⟩
end Go.Proofs.YtdcjlemkegifjaaDoor.Ab
