/- impl.number, and strings.Split, as abstract values tell them. -/
import Derived.Test.YtdcjlemkegifjaaDoorAbShB
import Derived.Test.YtdcjlemkegifjaaDoorAbItJ
import Derived.Test.YtdcjlemkegifjaaDoorAbPrs2
import Derived.WalkKit
import Derived.BigCall
namespace Go.Proofs.YtdcjlemkegifjaaDoor.Ab
open Go Go.Proofs Go.RowKit Go.Shelf
set_option linter.unusedVariables false
set_option linter.unusedSimpArgs false
def CP (w : World) : Prop := TabC w ∧ (∃ tp p, w.var? Tryd.prog "strconv.ErrSyntax" = some #[.iface tp p]) ∧ (∃ tp p, w.var? Tryd.prog "strconv.ErrRange" = some #[.iface tp p]) ∧ ∃ m, w.cell? ⟨1, 0, none⟩ = some (.int .i64 m)
theorem cp_lasts : Lasts CP := fun w w' hw h => by
 obtain ⟨h1, ⟨tp, p, h2⟩, ⟨tq, q, h3⟩, m, h4⟩ := h
 exact ⟨var_lasts hw h1, ⟨tp, p, var_lasts hw h2⟩, ⟨tq, q, var_lasts hw h3⟩, m, (cell_congr (hw.block 1 (cell_lt h4) (fun h => h))).trans h4⟩
theorem fr_bytes (w : World) (e : Nat) (t : ByteArray) : Fr (fun _ => False) w (Lib.bytesWorld w e t) := fr_below (Lib.bytesWorld_below _ _ _)
theorem fr_trans {a b c : World} (h : Fr (fun _ => False) a b) (k : Fr (fun _ => False) b c) : Fr (fun _ => False) a c := h.trans k (fun _ h => h.elim)
theorem fr_grow (w : World) (k : Nat) (os : Array Obj) : Fr (fun _ => False) w (Sort.grow (w.drewN k) os) := by
 refine ⟨rfl, rfl, rfl, ?_, fun b hb _ => ?_⟩
 ·show w.heap.size ≤ (w.heap ++ os).size
  simp
 ·show (w.heap ++ os)[b]? = w.heap[b]?
  rw [Array.getElem?_append_left hb]
set_option maxRecDepth 100000 in
theorem number_ok (s : ByteArray) (v : Int) (hlim : s.size ≤ 281474976710656) (h : Lib.atoiAll s.data.toList = .ok v) (w : World) (hT : TabC w) :
  Calls Tryd.prog 21 #[.string s] w fun e w' => e = .returned (.tuple #[.int .i64 v, .bool (Lib.itoa v == s.data.toList)]) ∧ Fr (fun _ => False) w w' := by
 obtain ⟨hb0, hb1⟩ := Lib.atoiAll_bounds h
 have hat := fun W => strconv_Atoi_ok s (by omega) v h W
 have hit := fun W (hW : TabC W) => Any.strconv_Itoa laysM171 v hb0 hb1 W hW
 go_enter Tryd.func21, Tryd.ntmps21
 go_wp2_with (first | (go_at_call 31; refine (hat _).mono ?_; rintro e w1 ⟨rfl, hw1⟩) | (go_at_call 16; refine (hit _ ?c1).mono ?c2))
 case c1 =>
  rcases hw1 with rfl | ⟨t, rfl⟩
  ·exact hT
  ·exact tab_lasts _ _ (fr_bytes _ _ _) hT
 case c2 =>
  rintro e w2 ⟨rfl, k, os, rfl⟩
  go_wp2
  go_ret2
  refine ⟨?_, ?_⟩
  ·rw [ByteArray.toList_eq]; rfl
  ·refine fr_trans ?_ (fr_grow _ k os)
   rcases hw1 with rfl | ⟨t, rfl⟩
   ·exact Fr.refl _ _
   ·exact fr_bytes _ _ _
theorem atoi_bad (s : ByteArray) (hlim : s.size ≤ 281474976710656) (h1 : ∀ v, Lib.atoiAll s.data.toList ≠ .ok v) (h2 : Lib.atoiAll s.data.toList ≠ .range) (tp : TypeId) (p : Value) (w : World) (hvar : w.var? Tryd.prog "strconv.ErrSyntax" = some #[.iface tp p]) :
  Calls Tryd.prog 31 #[.string s] w fun e w' => ∃ N, e = .returned (.tuple #[.int .i64 0, .iface 74 (.pointer (some ⟨N, 0, none⟩))]) ∧ w.heap.size ≤ N ∧ w'.heap[N]? = some (.cells #[.string ⟨#[65, 116, 111, 105]⟩, .string s, .iface tp p] 88 (0, 0)) ∧ Below w.heap.size w w' := by
 cases h : Lib.atoiAll s.data.toList with
 | ok v => exact absurd h (h1 v)
 | range => exact absurd h h2
 | _ => exact Any.strconv_Atoi_syntax_var laysC172 s hlim h tp p w hvar
set_option maxRecDepth 100000 in
theorem number_bad (s : ByteArray) (hlim : s.size ≤ 281474976710656) (h1 : ∀ v, Lib.atoiAll s.data.toList ≠ .ok v) (h2 : Lib.atoiAll s.data.toList ≠ .range) (tp : TypeId) (p : Value) (w : World) (hv : w.var? Tryd.prog "strconv.ErrSyntax" = some #[.iface tp p]) :
  Calls Tryd.prog 21 #[.string s] w fun e w' => e = .returned (.tuple #[.int .i64 0, .bool false]) ∧ Fr (fun _ => False) w w' := by
 have hat := fun W hW => atoi_bad s hlim h1 h2 tp p W hW
 go_enter Tryd.func21, Tryd.ntmps21
 go_wp2_with (go_at_call 31; refine (hat _ hv).mono ?_; rintro e w1 ⟨N, rfl, _, _, hb⟩)
 go_ret2
 exact ⟨rfl, fr_below hb⟩
set_option maxRecDepth 100000 in
theorem number_range (s : ByteArray) (hlim : s.size ≤ 281474976710656) (h : Lib.atoiAll s.data.toList = .range) (tp : TypeId) (p : Value) (w : World) (hv : w.var? Tryd.prog "strconv.ErrRange" = some #[.iface tp p]) :
  Calls Tryd.prog 21 #[.string s] w fun e w' => e = .returned (.tuple #[.int .i64 (Lib.atoiSat s.data.toList), .bool false]) ∧ Fr (fun _ => False) w w' := by
 have hat := fun W hW => strconv_Atoi_range_var s hlim h tp p W hW
 go_enter Tryd.func21, Tryd.ntmps21
 go_wp2_with (go_at_call 31; refine (hat _ hv).mono ?_; rintro e w1 ⟨N, rfl, _, _, hb⟩)
 go_ret2
 exact ⟨rfl, fr_below hb⟩
theorem numberW {l : List UInt8} (hl : l.length ≤ 1048576) : ACw CP Tryd.prog 21 [.str (sb l)] (.tup [.int .i64 (numN l), .bool (numB l)]) := by
 intro w S0 vs hC hlow hr
 obtain ⟨v, vs', rfl, hv, hr2⟩ : ∃ v vs', vs = v :: vs' ∧ v = .string (sb l) ∧ vs' = [] := by
  generalize hf : ([] : List Nat) = f at hr
  cases hr with | cons h hs => cases h; cases hs; exact ⟨_, _, rfl, rfl, rfl⟩
 subst hv hr2
 obtain ⟨hT, ⟨tp, p, h2⟩, ⟨tq, q, h3⟩, _⟩ := hC
 have hlim : (sb l).size ≤ 281474976710656 := by rw [size_sb]; omega
 have fin : ∀ (n : Int) (b : Bool), numN l = n → numB l = b → Calls Tryd.prog 21 #[.string (sb l)] w (fun e w' => e = .returned (.tuple #[.int .i64 n, .bool b]) ∧ Fr (fun _ => False) w w') →
   Calls Tryd.prog 21 #[.string (sb l)] w fun e w' => ∃ v fb, e = .returned v ∧ Rel w' (Sof S0 fb) [] (.tup [.int .i64 (numN l), .bool (numB l)]) v fb ∧ fb.Nodup ∧ (∀ b ∈ fb, w.heap.size ≤ b) ∧ Fr (fun _ => False) w w' := by
  intro n b e1 e2 hc
  rw [e1, e2]
  refine hc.mono fun e w' ⟨he, hw⟩ => ?_
  exact ⟨_, [], he, .tup (vs := [.int .i64 n, .bool b]) (.cons (f := []) (fs := []) (.int _ _) (.cons (f := []) (fs := []) (.bool _) .nil)), by simp, by simp, hw⟩
 cases h : Lib.atoiAll l with
 | ok v => exact fin v _ (by unfold numN; simp only [h]) (by unfold numB; simp only [h]; rfl) (number_ok (sb l) v hlim h w hT)
 | range => exact fin _ false (by unfold numN; simp only [h]; rfl) (by unfold numB; simp only [h]) (number_range (sb l) hlim h tq q w h3)
 | _ => exact fin 0 false (by unfold numN; simp only [h]) (by unfold numB; simp only [h]) (number_bad (sb l) hlim (fun v e => by have e2 := h.symm.trans e; cases e2) (fun e => by have e2 := h.symm.trans e; cases e2) tp p w h2)
theorem rel_strs {w : World} {S : Nat → Prop} {φ : List (Option Loc)} : ∀ {xs : List (List UInt8)} {ss : List ByteArray}, ss.map (fun s => s.data.toList) = xs → RelL w S φ ((xs.map sv).flatten) (ss.map Value.string) []
 | [], [], _ => .nil
 | [], _ :: _, h => by simp at h
 | _ :: _, [], h => by simp at h
 | x :: xs, s :: ss, h => by
  simp only [List.map_cons, List.cons.injEq] at h
  simp only [List.map_cons, sv, List.flatten_cons, List.cons_append, List.nil_append]
  have e : s = sb x := by rw [← h.1]; exact (sb_bl s).symm
  rw [e]
  exact .cons (f := []) (fs := []) (.str _) (rel_strs h.2)
theorem splitW {l : List UInt8} (hl : l.length ≤ 1048576) : ACw CP Tryd.prog 20 [.str (sb l), .str ⟨#[44]⟩] (.row true 1 ((spl l).map sv)) := by
 intro w S0 vs hC hlow hr
 obtain rfl : vs = [.string (sb l), .string ⟨#[44]⟩] := by
  generalize hf : ([] : List Nat) = f at hr
  cases hr with | cons h hs => cases h; cases hs with | cons h2 hs2 => cases h2; cases hs2; rfl
 obtain ⟨_, _, _, m, hm⟩ := hC
 refine (strings_Split (sb l) ⟨#[44]⟩ m w (by rw [size_sb]; omega) hm (by decide)).mono ?_
 rintro e w' ⟨rfl, rfl⟩
 have hs := splitB_spl l
 obtain ⟨ss, hss⟩ : ∃ x, Lib.splitB ⟨#[44]⟩ 0 (Lib.countB (sb l) ⟨#[44]⟩) (sb l) = x := ⟨_, rfl⟩
 have hlen := Lib.splitB_all ⟨#[44]⟩ (by decide) 0 (Lib.countB (sb l) ⟨#[44]⟩) (sb l) rfl
 rw [hss] at hs hlen ⊢
 have hl2 : ((spl l).map sv).length = Lib.countB (sb l) ⟨#[44]⟩ + 1 := by rw [List.length_map, ← hs, List.length_map, hlen]
 refine ⟨_, [w.heap.size], rfl, ?_, by simp, by simp, ?_⟩
 ·rw [← hl2]
  have hhp : (w.alloc (.cells (ss.map Value.string).toArray 9)).heap[w.heap.size]? = some (.cells (ss.map Value.string).toArray 9 (0, 0)) := by
   show (w.heap.push _)[w.heap.size]? = _
   simp
  refine Rel.own (vs := ss.map Value.string) (f := []) (off := 0) hhp (by simp [hlen, hl2]) ?_ (rel_strs hs) ?_ (Nat.le_refl _)
  ·intro e he
   obtain ⟨x, _, rfl⟩ := List.mem_map.1 he
   rfl
  ·intro k v hk
   simpa using hk
 ·refine ⟨rfl, rfl, rfl, ?_, fun b hb _ => ?_⟩
  ·show w.heap.size ≤ (w.heap.push _).size
   simp
  ·show (w.heap.push _)[b]? = _
   rw [Array.getElem?_push_lt hb, Array.getElem?_eq_getElem hb]
end Go.Proofs.YtdcjlemkegifjaaDoor.Ab
