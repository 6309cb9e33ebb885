/- A function that writes some blocks of its caller's is called on these alone: the others live on. -/
import Derived.Test.YtmijpnghcggdfaaFwB
namespace Go.Proofs.Ytmijpnghcggdfaa.Ab
open Go
set_option linter.unusedVariables false
set_option linter.unusedSimpArgs false

mutual
/-- Other names, by a function. -/
def mpA (r : Nat → Nat) : A → A
  | .sl m lo len => .sl (r m) lo len
  | .ptr m i j => .ptr (r m) i j
  | .agg cs => .agg (mpL r cs)
  | .tup cs => .tup (mpL r cs)
  | .fn f cs => .fn f (mpL r cs)
  | .row own sz es => if own then .row true sz (mpLL r es) else .row false sz es
  | .box cs => .box (mpL r cs)
  | .any => .any
  | .int k n => .int k n
  | .bool b => .bool b
  | .str s => .str s
  | .nils => .nils
  | .nilp => .nilp
  | .rp sz es i j => .rp sz es i j
def mpL (r : Nat → Nat) : List A → List A
  | [] => []
  | a :: as => mpA r a :: mpL r as
def mpLL (r : Nat → Nat) : List (List A) → List (List A)
  | [] => []
  | e :: es => mpL r e :: mpLL r es
end
theorem mpL_len (r : Nat → Nat) (as : List A) : (mpL r as).length = as.length := by
  induction as with
  | nil => rfl
  | cons a as ih => simp [mpL, ih]
theorem mpLL_map (r : Nat → Nat) (es : List (List A)) : mpLL r es = es.map (mpL r) := by
  induction es with
  | nil => rfl
  | cons a as ih => simp [mpLL, ih]
theorem mpL_map (r : Nat → Nat) (es : List A) : mpL r es = es.map (mpA r) := by
  induction es with
  | nil => rfl
  | cons a as ih => simp [mpL, ih]
theorem mpLL_app (r : Nat → Nat) (a b : List (List A)) : mpLL r (a ++ b) = mpLL r a ++ mpLL r b := by simp [mpLL_map]
mutual
theorem mpA_pure {r : Nat → Nat} {x : A} (h : pureA x = true) : mpA r x = x := by
  cases x with
  | row own sz es =>
    cases own with
    | false => rfl
    | true => simp only [pureA, if_true] at h; simp only [mpA, if_true, mpLL_pure h]
  | agg cs => simp only [pureA] at h; simp only [mpA, mpL_pure h]
  | tup cs => simp only [pureA] at h; simp only [mpA, mpL_pure h]
  | fn f cs => simp only [pureA] at h; simp only [mpA, mpL_pure h]
  | box cs => simp only [pureA] at h; simp only [mpA, mpL_pure h]
  | sl m lo len => simp [pureA] at h
  | ptr m i j => simp [pureA] at h
  | _ => rfl
theorem mpL_pure {r : Nat → Nat} {xs : List A} (h : pureL xs = true) : mpL r xs = xs := by
  cases xs with
  | nil => rfl
  | cons x xs => simp only [pureL, Bool.and_eq_true] at h; simp only [mpL, mpA_pure h.1, mpL_pure h.2]
theorem mpLL_pure {r : Nat → Nat} {es : List (List A)} (h : pureLL es = true) : mpLL r es = es := by
  cases es with
  | nil => rfl
  | cons e es => simp only [pureLL, Bool.and_eq_true] at h; simp only [mpLL, mpL_pure h.1, mpLL_pure h.2]
end
section
variable {w : World} {S : Nat → Prop} {φ Φ : List (Option Loc)} {r : Nat → Nat}
mutual
theorem mpA_rel (hr0 : ∀ i l, φ[i]? = some (some l) → Φ[r i]? = some (some l)) {x : A} {v : Value} {f : List Nat} (h : Rel w S φ x v f) : Rel w S Φ (mpA r x) v f := by
  cases x with
  | sl m lo len => cases h with | sl hm hlo hl ha => exact .sl (hr0 _ _ hm) hlo hl ha
  | ptr m i j => cases h with | ptr hm => exact .ptr (hr0 _ _ hm)
  | agg cs => cases h with | agg hr => exact .agg (mpL_rel hr0 hr)
  | tup cs => cases h with | tup hr => exact .tup (mpL_rel hr0 hr)
  | fn f cs => cases h with | fn hr => exact .fn (mpL_rel hr0 hr)
  | row own sz es =>
    cases own with
    | true =>
      simp only [mpA, if_true]
      cases h with
      | own hh hz hu hr hc hl =>
        have hlen : (mpLL r es).length = es.length := by rw [mpLL_map]; simp
        rw [← hlen] at hl ⊢
        exact .own hh hz (by rw [mpLL_map]; intro e he; obtain ⟨x, hx, rfl⟩ := List.mem_map.1 he; rw [mpL_len]; exact hu x hx) (mpLF_rel hr0 hr) hc hl
      | own0 => exact .own0 _ _
    | false => cases h with
      | ro hu hr hc hl => exact .ro hu hr hc hl
      | ro0 => exact .ro0 _ _ _
  | box cs => cases h with | box hh hz hl hc hr => exact .box hh (by rw [mpL_len]; exact hz) hl hc (mpL_rel hr0 hr)
  | any => cases h; exact .any _
  | int k n => cases h; exact .int _ _
  | bool b => cases h; exact .bool _
  | str s => cases h; exact .str _
  | nils => cases h; exact .nils
  | nilp => cases h; exact .nilp
  | rp sz es i j => cases h with | rp hu hr hc => exact .rp hu hr hc
theorem mpL_rel (hr0 : ∀ i l, φ[i]? = some (some l) → Φ[r i]? = some (some l)) {xs : List A} {vs : List Value} {f : List Nat} (h : RelL w S φ xs vs f) : RelL w S Φ (mpL r xs) vs f := by
  cases xs with
  | nil => cases h; exact .nil
  | cons x xs => cases h with | cons h1 h2 => exact .cons (mpA_rel hr0 h1) (mpL_rel hr0 h2)
theorem mpLF_rel (hr0 : ∀ i l, φ[i]? = some (some l) → Φ[r i]? = some (some l)) {es : List (List A)} {vs : List Value} {f : List Nat} (h : RelL w S φ es.flatten vs f) : RelL w S Φ (mpLL r es).flatten vs f := by
  cases es with
  | nil => cases h; exact .nil
  | cons e es =>
    rw [List.flatten_cons] at h
    obtain ⟨u1, u2, g1, g2, rfl, rfl, r1, r2⟩ := h.split
    simp only [mpLL, List.flatten_cons]
    exact (mpL_rel hr0 r1).append (mpLF_rel hr0 r2)
end
def mpB (r : Nat → Nat) : Option Blk → Option Blk
  | some (sz, es) => some (sz, mpLL r es)
  | none => none
def mpH (r : Nat → Nat) : Heap → Heap
  | [] => []
  | b :: h => mpB r b :: mpH r h
theorem mpB_rel (hr0 : ∀ i l, φ[i]? = some (some l) → Φ[r i]? = some (some l)) {b : Option Blk} {l : Option Loc} {f : List Nat} (h : BRel w S φ b l f) : BRel w S Φ (mpB r b) l f := by
  cases b with
  | none => exact h
  | some b =>
    obtain ⟨sz, es⟩ := b
    cases l with
    | none => exact h.elim
    | some l =>
      obtain ⟨hz, h | ⟨arr, ty, vs, f0, e, h1, h2, h3, h4, h5, h6⟩⟩ := h
      · refine ⟨hz, .inl ⟨h.1, ?_, h.2.2⟩⟩
        rw [h.2.1]; rfl
      · refine ⟨hz, .inr ⟨arr, ty, vs, f0, e, h1, h2, ?_, mpLF_rel hr0 h4, h5, ?_⟩⟩
        · rw [mpLL_map]; intro e he; obtain ⟨x, hx, rfl⟩ := List.mem_map.1 he; rw [mpL_len]; exact h3 x hx
        · rw [mpLL_map]; simpa using h6
theorem mpH_rel (hr0 : ∀ i l, φ[i]? = some (some l) → Φ[r i]? = some (some l)) {h : Heap} {ls : List (Option Loc)} {f : List Nat} (H : HRel w S φ h ls f) : HRel w S Φ (mpH r h) ls f := by
  induction H with
  | nil => exact .nil
  | cons hb hs ih => exact .cons (mpB_rel hr0 hb) ih
theorem mpH_len (r : Nat → Nat) (h : Heap) : (mpH r h).length = h.length := by
  induction h with
  | nil => rfl
  | cons b h ih => simp [mpH, ih]

/-- The blocks that are told are taken away. -/
def killAll (h : Heap) : List Nat → Heap
  | [] => h
  | m :: s => killAll (h.set m none) s
theorem killAll_len (s : List Nat) : ∀ h : Heap, (killAll h s).length = h.length := by
  induction s with
  | nil => intro h; rfl
  | cons m s ih => intro h; simp [killAll, ih]
theorem killAll_out (s : List Nat) : ∀ (h : Heap) (x : Nat), x ∉ s → (killAll h s)[x]? = h[x]? := by
  induction s with
  | nil => intro h x _; rfl
  | cons m s ih =>
    intro h x hx
    simp only [List.mem_cons, not_or] at hx
    rw [killAll, ih _ _ hx.2, List.getElem?_set_ne (fun e => hx.1 e.symm)]
theorem killAll_in (s : List Nat) : ∀ (h : Heap) (x : Nat), x ∈ s → x < h.length → (killAll h s)[x]? = some none := by
  induction s with
  | nil => intro h x hx; simp at hx
  | cons m s ih =>
    intro h x hx hl
    rw [killAll]
    by_cases hxs : x ∈ s
    · exact ih _ _ hxs (by simpa using hl)
    · rw [killAll_out _ _ _ hxs]
      rcases List.mem_cons.1 hx with rfl | hx
      · exact List.getElem?_set_self hl
      · exact absurd hx hxs
theorem rn_split (all : List Nat) (sel : List Nat) : ∀ {h : Heap} {fs : List Nat}, HRel w S φ h φ fs → fs.Nodup → sel.Nodup →
    ∃ fr fk, HRel w S (pickφ φ all) (sel.map fun m => rnB all ((h[m]?).getD none)) (pickφ φ sel) fk ∧ HRel w S φ (killAll h sel) φ fr ∧ fs.Perm (fr ++ fk) := by
  induction sel with
  | nil => intro h fs H hn hs; exact ⟨fs, [], .nil, H, by simp⟩
  | cons m sel ih =>
    intro h fs H hn hs
    have hs2 := List.nodup_cons.1 hs
    have heq : ∀ h : Heap, (sel.map fun x => rnB all (((h.set m none)[x]?).getD none)) = sel.map fun x => rnB all ((h[x]?).getD none) := by
      intro h
      apply List.map_congr_left
      intro x hx
      have : m ≠ x := fun e => hs2.1 (by rw [e]; exact hx)
      rw [List.getElem?_set_ne this]
    have non : (h[m]?).getD none = none → h.set m none = h → ∃ fr fk, HRel w S (pickφ φ all) ((m :: sel).map fun m => rnB all ((h[m]?).getD none)) (pickφ φ (m :: sel)) fk ∧ HRel w S φ (killAll h (m :: sel)) φ fr ∧ fs.Perm (fr ++ fk) := by
      intro hm he
      obtain ⟨fr, fk, g1, g2, g3⟩ := ih H hn hs2.2
      refine ⟨fr, [] ++ fk, ?_, ?_, by simpa using g3⟩
      · simp only [pickφ, List.map_cons, hm]
        exact .cons rfl g1
      · rw [killAll, he]; exact g2
    cases hm : h[m]? with
    | none => exact non (by rw [hm]; rfl) (List.set_eq_of_length_le (by simpa using hm))
    | some b =>
      cases b with
      | none => exact non (by rw [hm]; rfl) (heap_same hm)
      | some b =>
        obtain ⟨l, fr0, fb, q1, q2, q3, q4⟩ := H.kill hn hm
        have hnd := q4.nodup hn
        have hnd2 := List.nodup_append.1 hnd
        obtain ⟨fr, fk, g1, g2, g3⟩ := ih q3 hnd2.1 hs2.2
        rw [heq] at g1
        refine ⟨fr, fb ++ fk, ?_, ?_, ?_⟩
        · simp only [pickφ, List.map_cons, hm, q1, Option.getD_some]
          exact .cons (rnB_rel q2) g1
        · rw [killAll]; exact g2
        · refine q4.trans ?_
          refine (List.Perm.append_right fb g3).trans ?_
          rw [List.append_assoc]
          exact List.Perm.append_left fr List.perm_append_comm
def putAll {α : Type} : List α → List Nat → List α → List α
  | k, m :: s, b :: h => putAll (k.set m b) s h
  | k, _, _ => k
theorem putAll_len {α : Type} (s : List Nat) : ∀ (k h : List α), (putAll k s h).length = k.length := by
  induction s with
  | nil => intro k h; cases h <;> rfl
  | cons m s ih =>
    intro k h
    cases h with
    | nil => rfl
    | cons b h => simp [putAll, ih]
theorem putAll_out {α : Type} (s : List Nat) : ∀ (k h : List α) (x : Nat), x ∉ s → (putAll k s h)[x]? = k[x]? := by
  induction s with
  | nil => intro k h x _; cases h <;> rfl
  | cons m s ih =>
    intro k h x hx
    simp only [List.mem_cons, not_or] at hx
    cases h with
    | nil => rfl
    | cons b h => rw [putAll, ih _ _ _ hx.2, List.getElem?_set_ne (fun e => hx.1 e.symm)]
theorem putAll_in {α : Type} (s : List Nat) : ∀ (k h : List α) (i m : Nat) (b : α), s.Nodup → (∀ x ∈ s, x < k.length) → s[i]? = some m → h[i]? = some b → (putAll k s h)[m]? = some b := by
  induction s with
  | nil => intro k h i m b _ _ hi; simp at hi
  | cons m0 s ih =>
    intro k h i m b hn hl hi hb
    have hn2 := List.nodup_cons.1 hn
    cases h with
    | nil => simp at hb
    | cons b0 h =>
      rw [putAll]
      cases i with
      | zero =>
        simp only [List.getElem?_cons_zero, Option.some.injEq] at hi hb
        subst hi hb
        rw [putAll_out _ _ _ _ hn2.1]
        exact List.getElem?_set_self (hl _ (by simp))
      | succ i => exact ih _ _ i m b hn2.2 (fun x hx => by simpa using hl x (by simp [hx])) (by simpa using hi) (by simpa using hb)
theorem put_rel (sel : List Nat) : ∀ {K h1 : Heap} {ls l1 : List (Option Loc)} {fr f1 : List Nat}, HRel w S φ K ls fr → (∀ m ∈ sel, K[m]? = some none) → sel.Nodup → HRel w S φ h1 l1 f1 → h1.length = sel.length →
    ∃ f, HRel w S φ (putAll K sel h1) (putAll ls sel l1) f ∧ f.Perm (fr ++ f1) := by
  induction sel with
  | nil =>
    intro K h1 ls l1 fr f1 H hk hs H1 hl
    have := List.length_eq_zero_iff.1 hl
    subst this
    cases H1
    exact ⟨fr, H, by simp⟩
  | cons m sel ih =>
    intro K h1 ls l1 fr f1 H hk hs H1 hl
    have hs2 := List.nodup_cons.1 hs
    cases H1 with
    | nil => simp at hl
    | cons hb hsn =>
      rename_i b l fb bs ls1 fs1
      obtain ⟨l0, g1, g0, g2, q1, q2, q3, q4⟩ := H.at2 (hk m (by simp))
      have : g0 = [] := q2
      subst this
      have H2 := q4 w S (fun _ => False) φ b l fb (Fr.refl _ w) (fun b hb => .inl hb) (fun _ h => h.elim) (Ext.refl φ) (fun _ _ h => h) (fun _ _ h => h) hb
      obtain ⟨f, p1, p2⟩ := ih H2 (fun x hx => by
        have : m ≠ x := fun e => hs2.1 (by rw [e]; exact hx)
        rw [List.getElem?_set_ne this]
        exact hk x (by simp [hx])) hs2.2 hsn (by simpa using hl)
      refine ⟨f, p1, p2.trans ?_⟩
      rw [q3]
      simp only [List.nil_append, List.append_assoc]
      refine List.Perm.append_left g1 ?_
      rw [← List.append_assoc fb g2 fs1, ← List.append_assoc g2 fb fs1]
      exact List.Perm.append_right fs1 List.perm_append_comm
end
/-- The names that a callee's blocks have for its caller. -/
def bkI (sel : List Nat) (n : Nat) (i : Nat) : Nat :=
  match sel[i]? with
  | some m => m
  | none => n + (i - sel.length)
def mergeH (h : Heap) (sel : List Nat) (h' : Heap) : Heap := putAll (killAll h sel) sel ((mpH (bkI sel h.length) h').take sel.length) ++ (mpH (bkI sel h.length) h').drop sel.length
section
variable {c : Cx} {k : List It} {st st' : St} {all : Array Oper} {o : Oper} {l : List Oper}
theorem G.callF {fid : FuncId} {caps : List A} {fo : Operand} {args : Array Operand} {at_ : Array TypeId} {res : A} {h' hsel : Heap} {vargs : List A} (sel : List Nat) (he : Enters c.P fid)
    (ho : o.op = .call { callee := .value fo, args := args, argTypes := at_ }) (hg : o.guard = none) (hf : ev st.env fo = .fn fid caps) (hsn : sel.Nodup) (hsl : ∀ m ∈ sel, m < st.heap.length)
    (h1 : rnH st.heap sel = hsel) (h2 : rnL sel (callArgs st.env args caps) = vargs) (hc : MC c.P fid hsel vargs res h') (hlen : sel.length ≤ h'.length)
    (hp : (withH st (mergeH st.heap sel h')).putO o.dst (mpA (bkI sel st.heap.length) res) = some st') (h : G c (.ops all l :: k) st') : G c (.ops all (o :: l) :: k) st := by
  subst h1 h2
  intro a w φ fs hr hb
  have hfv := ev_rel hr fo
  rw [hf] at hfv
  generalize hfe : a.eval fo = fv at hfv
  cases hfv with
  | fn hcaps =>
    rename_i cvs
    have hargs : RelL w (Sof c.S0 fs) φ (callArgs st.env args caps) (args.toList.map a.eval ++ cvs) [] := (args_rel hr args.toList).append (f := []) (g := []) hcaps
    have hφl := hr.heap.length
    obtain ⟨fr, fk, g1, g2, g3⟩ := rn_split sel sel hr.heap hr.nodup hsn
    have hnd := List.nodup_append.1 (g3.nodup hr.nodup)
    have hkf : ∀ b ∈ fk, b ∈ fs := fun b hb => g3.mem_iff.2 (by simp [hb])
    have hrf : ∀ b ∈ fr, b ∈ fs := fun b hb => g3.mem_iff.2 (by simp [hb])
    let S1 : Nat → Prop := fun b => c.S0 b ∨ b ∈ fr
    have hS1 : ∀ b, Sof S1 fk b → Sof c.S0 fs b := fun b hb => by
      rcases hb with (hb | hb) | hb
      · exact .inl hb
      · exact .inr (hrf b hb)
      · exact .inr (hkf b hb)
    have hlow1 : ∀ b, S1 b → b < w.heap.size := fun b hb => hb.elim (hr.low b) (fun hb => hr.heap.lt b (hrf b hb))
    have hap1 : ∀ b ∈ fk, ¬ S1 b := fun b hb hS => hS.elim (hr.apart b (hkf b hb)) (fun h => hnd.2.2 b h b hb rfl)
    have hargs1 := (rnL_rel (sel := sel) hargs).frame (S' := Sof S1 fk) (Fr.refl (fun _ => False) w) (fun b hb => .inl (hS1 b hb)) (fun _ h => h.elim) (Ext.refl _) (fun _ _ h => h)
    have hcall := hc w S1 (args.toList.map a.eval ++ cvs) (pickφ φ sel) fk hlow1 (g1.sub hS1) hnd.2.1 hap1 hargs1
    show wpList c.P all (cont c.P k c.Q) (o :: l) a w
    simp only [wpList]
    rw [if_pos (by simp [Region.wanted, hg])]
    refine .inl ?_
    unfold Oper.wp
    have hrun : (execOp a.eval o).run c.P w = .ok (.enter fid (args.toList.map a.eval ++ cvs).toArray) w := by
      unfold execOp
      rw [ho]
      simp only [resolve, hfe, Deferred.ofValue, invoke, Sem.run_bind, Sem.run_pure, Result.andThen_ok]
      have e : (#[] ++ Array.map a.eval args ++ cvs.toArray : Array Value) = (args.toList.map a.eval ++ cvs).toArray := by apply Array.ext'; simp
      rw [e]
      exact he _ w
    rw [hrun]
    simp only [Oper.upon]
    refine hcall.mono ?_
    rintro e w' ⟨v, φ2, fs2, rfl, r1, r2, r3, r4, r5, r6⟩
    have hl2 := r2.length
    -- the names
    let Φ : List (Option Loc) := putAll φ sel (φ2.take sel.length) ++ φ2.drop sel.length
    have hΦn : ∀ i l, φ2[i]? = some (some l) → Φ[bkI sel st.heap.length i]? = some (some l) := by
      intro i l hi
      unfold bkI
      cases hs : sel[i]? with
      | some m =>
        have hil := (List.getElem?_eq_some_iff.1 hs).1
        have hm : m ∈ sel := List.mem_of_getElem? hs
        have hml := hsl m hm
        have : (putAll φ sel (φ2.take sel.length))[m]? = some (some l) := putAll_in sel φ _ i m _ hsn (fun x hx => by rw [hφl]; exact hsl x hx) hs (by rw [List.getElem?_take_of_lt hil]; exact hi)
        show (putAll φ sel (φ2.take sel.length) ++ φ2.drop sel.length)[m]? = _
        rw [List.getElem?_append_left (by rw [putAll_len, hφl]; exact hml)]
        exact this
      | none =>
        have hil : sel.length ≤ i := by simpa using hs
        show (putAll φ sel (φ2.take sel.length) ++ φ2.drop sel.length)[st.heap.length + (i - sel.length)]? = _
        rw [List.getElem?_append_right (by rw [putAll_len, hφl]; omega), putAll_len, hφl, List.getElem?_drop]
        rw [show sel.length + (st.heap.length + (i - sel.length) - st.heap.length) = i by omega]
        exact hi
    have hext : Ext φ Φ := by
      intro m l hm
      have hml := (List.getElem?_eq_some_iff.1 hm).1
      show (putAll φ sel (φ2.take sel.length) ++ φ2.drop sel.length)[m]? = _
      rw [List.getElem?_append_left (by rw [putAll_len]; exact hml)]
      by_cases hms : m ∈ sel
      · obtain ⟨i, hi⟩ := List.getElem?_of_mem hms
        have hil := (List.getElem?_eq_some_iff.1 hi).1
        have hp : (pickφ φ sel)[i]? = some (some l) := by unfold pickφ; rw [List.getElem?_map, hi]; simp [hm]
        exact putAll_in sel φ _ i m _ hsn (fun x hx => by rw [hφl]; exact hsl x hx) hi (by rw [List.getElem?_take_of_lt hil]; exact r5 i l hp)
      · rw [putAll_out _ _ _ _ hms]; exact hm
    -- the memory
    have hmem2 : ∀ b ∈ fs2, b ∈ fs ∨ w.heap.size ≤ b := fun b hb => (r4 b hb).imp (hkf b) id
    have hdis : ∀ x ∈ fr, ∀ y ∈ fs2, x ≠ y := fun x hx y hy e => by
      subst e
      rcases r4 x hy with h | h
      · exact hnd.2.2 x hx x h rfl
      · have := hr.heap.lt x (hrf x hx); omega
    have hfT : ∀ b, b ∈ fk → Sof c.S0 fs b := fun b hb => .inr (hkf b hb)
    have hSn : ∀ (fn : List Nat), (∀ b ∈ fn, b ∈ fr ++ fs2) → ∀ b, Sof c.S0 fn b → Sof c.S0 fs b ∨ w.heap.size ≤ b := fun fn hfn b hb => by
      rcases hb with hb | hb
      · exact .inl (.inl hb)
      · rcases List.mem_append.1 (hfn b hb) with h | h
        · exact .inl (.inr (hrf b h))
        · exact (hmem2 b h).imp .inr id
    have hS2 : ∀ (fn : List Nat), (∀ b ∈ fn, b ∈ fr ++ fs2) → ∀ b, Sof c.S0 fn b → Sof S1 fs2 b := fun fn hfn b hb => by
      rcases hb with hb | hb
      · exact .inl (.inl hb)
      · rcases List.mem_append.1 (hfn b hb) with h | h
        · exact .inl (.inr h)
        · exact .inr h
    have key : ∃ fn, HRel w' (Sof c.S0 fn) Φ (mergeH st.heap sel h') Φ fn ∧ fn.Perm (fr ++ fs2) := by
      have HR := g2.frame (S' := Sof c.S0 (fr ++ fs2)) r6 (hSn _ (fun _ h => h)) hfT hext (fun g hg hk => hnd.2.2 g hg g hk rfl)
      have HN := mpH_rel hΦn (r2.sub (S' := Sof c.S0 (fr ++ fs2)) (hS2 _ (fun _ h => h)))
      have hsplit : mpH (bkI sel st.heap.length) h' = (mpH (bkI sel st.heap.length) h').take sel.length ++ (mpH (bkI sel st.heap.length) h').drop sel.length := (List.take_append_drop _ _).symm
      rw [hsplit] at HN
      obtain ⟨l1, l2, f1, f2, e1, e2, q1, q2⟩ := HN.part
      have hl1 : l1.length = sel.length := by rw [q1.length, List.length_take, mpH_len]; omega
      obtain ⟨f, p1, p2⟩ := put_rel sel HR (fun m hm => killAll_in _ _ _ hm (hsl m hm)) hsn q1 (by rw [List.length_take, mpH_len]; omega)
      have hH := p1.append q2
      have ht : φ2.take sel.length = l1 := by rw [e1, ← hl1]; simp
      have hd : φ2.drop sel.length = l2 := by rw [e1, ← hl1]; simp
      refine ⟨f ++ f2, ?_, ?_⟩
      · have hperm : (f ++ f2).Perm (fr ++ fs2) := by
          rw [e2, ← List.append_assoc]
          exact List.Perm.append_right f2 p2
        have hΦ : Φ = putAll φ sel l1 ++ l2 := by show putAll φ sel (φ2.take sel.length) ++ φ2.drop sel.length = _; rw [ht, hd]
        have h3 := hH.sub (S' := Sof c.S0 (f ++ f2)) (fun b hb => hb.imp id (fun h => hperm.mem_iff.1 h))
        have h4 : HRel w' (Sof c.S0 (f ++ f2)) Φ (mergeH st.heap sel h') (putAll φ sel l1 ++ l2) (f ++ f2) := h3
        rw [← hΦ] at h4
        exact h4
      · rw [e2, ← List.append_assoc]
        exact List.Perm.append_right f2 p2
    obtain ⟨fn, k1, k2⟩ := key
    have hfn : ∀ b ∈ fn, b ∈ fs ∨ w.heap.size ≤ b := fun b hb => by
      rcases List.mem_append.1 (k2.mem_iff.1 hb) with h | h
      · exact .inl (hrf b h)
      · exact hmem2 b h
    have hst := hr.to (w' := w') (T := fun b => b ∈ fk) (φ' := Φ) (h' := mergeH st.heap sel h') (fs' := fn) r6 (fun b hb => hkf b hb) hfn hext (k2.symm.nodup (List.nodup_append.2 ⟨hnd.1, r3, hdis⟩)) k1
    have hres := (mpA_rel hΦn r1).frame (S' := Sof c.S0 fn) (Fr.refl (fun _ => False) w') (fun b hb => .inl (hS2 fn (fun b h => k2.mem_iff.1 h) b hb)) (fun _ h => h.elim) (Ext.refl _) (fun _ _ h => h)
    have hst2 : SRel c.S0 (withH st (mergeH st.heap sel h')) a w' Φ fn := hst
    exact h _ w' Φ fn (hst2.putO hres hp) (hb.step r6 (fun b hb => hkf b hb) hfn hext)
end
end Go.Proofs.Ytmijpnghcggdfaa.Ab
