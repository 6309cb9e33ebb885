/- Rounds, and states put into order. -/
import Derived.Test.YtpdhoimpbiehkaaAbMach2
namespace Go.Proofs.Ytpdhoimpbiehkaa.Ab
open Go
set_option linter.unusedVariables false
set_option linter.unusedSimpArgs false

section
variable {c : Cx} {k : List It} {st st' : St} {all : Array Oper} {o : Oper} {l : List Oper}

theorem exists_min {p : Nat → Prop} (h : ∃ n, p n) : ∃ n, p n ∧ ∀ m, p m → n ≤ m := by
  obtain ⟨n, hn⟩ := h
  induction n using Nat.strongRecOn with
  | _ n ih =>
    by_cases hm : ∃ m, m < n ∧ p m
    · obtain ⟨m, h1, h2⟩ := hm
      exact ih m h1 h2
    · refine ⟨n, hn, fun m hpm => ?_⟩
      rcases Nat.lt_or_ge m n with h | h
      · exact absurd ⟨m, h, hpm⟩ hm
      · exact h
open Classical in
/-- Rounds: what holds at each begin, and a number that falls. -/
theorem G.loop {body : Code} (I : St → Prop) (μ : St → Nat) (h0 : I st) (round : ∀ st, I st → ∀ J : Act → World → Prop, (∀ st', I st' → μ st' < μ st → G c (.upto J :: k) st') → G c (.code body :: .upto J :: k) st) : G c (.code (.loop body) :: k) st := by
  intro a w φ fs hs hb
  let Ok : Act → World → Nat → Prop := fun a w n => ∃ st φ fs, SRel c.S0 st a w φ fs ∧ Bnd c w φ fs ∧ I st ∧ μ st = n
  let m : Act → World → Nat := fun a w => if h : ∃ n, Ok a w n then Classical.choose (exists_min h) else 0
  show (Code.loop body).wp c.P (cont c.P k c.Q) a w
  refine wp_loop (fun a w => ∃ n, Ok a w n) m ⟨μ st, st, φ, fs, hs, hb, h0, rfl⟩ ?_
  intro a1 w1 h1
  have hm : m a1 w1 = Classical.choose (exists_min h1) := dif_pos h1
  obtain ⟨⟨st1, φ1, fs1, hs1, hb1, hi1, e1⟩, _⟩ := Classical.choose_spec (exists_min h1)
  refine round st1 hi1 (fun a' w' => (∃ n, Ok a' w' n) ∧ m a' w' < m a1 w1) ?_ a1 w1 φ1 fs1 hs1 hb1
  intro st2 hi2 hlt a2 w2 φ2 fs2 hs2 hb2
  refine ⟨⟨μ st2, st2, φ2, fs2, hs2, hb2, hi2, rfl⟩, ?_⟩
  have h2 : ∃ n, Ok a2 w2 n := ⟨μ st2, st2, φ2, fs2, hs2, hb2, hi2, rfl⟩
  have hm2 : m a2 w2 = Classical.choose (exists_min h2) := dif_pos h2
  have hle := (Classical.choose_spec (exists_min h2)).2 (μ st2) ⟨st2, φ2, fs2, hs2, hb2, hi2, rfl⟩
  rw [hm, hm2, ← e1]
  omega

/-- A block's cells are taken together with what they lead to. -/
theorem G.foldBlk (m : Nat) {sz : Nat} {es es' : List (List A)} {h1 : Heap} (hm : st.heap[m]? = some (some (sz, es))) (hf : foldLL (st.heap.set m none) es = some (es', h1)) (hne : es ≠ []) (hm1 : h1[m]? = some none) (hl : h1.length = st.heap.length)
    (h : G c k (withH st (h1.set m (some (sz, es'))))) : G c k st := by
  intro a w φ fs hs hb
  obtain ⟨l, fr, fb, q1, q2, q3, q4⟩ := hs.heap.kill hs.nodup hm
  obtain ⟨hz, q2⟩ := q2
  rcases q2 with q2 | ⟨arr, ty, vs, f0, rfl, r1, r2, r3, r4, r5, r6⟩
  · exact absurd q2.2.1 hne
  · have hnd := q4.nodup hs.nodup
    have hn0 : (fr ++ f0).Nodup := ((List.Sublist.refl fr).append (List.sublist_cons_self l.g f0)).nodup hnd
    obtain ⟨fr', fx, g1, g2, g3, g4, g5⟩ := foldLL_rel q3 hn0 r4 hf r3
    obtain ⟨lo, f1, f0', f2, p1, p2, p3, p4⟩ := g2.at_ hm1
    have : f0' = [] := p2
    subst this
    rw [q1] at p1
    injection p1 with p1
    subst p1
    have hgn : ∀ b ∈ fr' ++ fx, b ≠ l.g := fun b hb' e => by
      subst e
      have hb2 := g3.2 _ hb'
      rw [List.nodup_append] at hnd
      rcases List.mem_append.1 hb2 with h | h
      · exact hnd.2.2 _ h _ (by simp) rfl
      · exact (List.nodup_cons.1 hnd.2.1).1 h
    have hsub : ∀ b ∈ f1 ++ ((l.g :: fx) ++ f2), b ∈ fs := fun b hb' => by
      rw [q4.mem_iff]
      simp only [List.mem_append, List.mem_cons] at hb'
      have h3 : ∀ b, b ∈ fr' ∨ b ∈ fx → b ∈ fr ++ l.g :: f0 := fun b hb2 => by
        have := g3.2 b (List.mem_append.2 hb2)
        simp only [List.mem_append, List.mem_cons] at this ⊢
        exact this.imp id .inr
      rcases hb' with hb' | (rfl | hb') | hb'
      · exact h3 b (.inl (by rw [p3]; simp [hb']))
      · simp
      · exact h3 b (.inr hb')
      · exact h3 b (.inl (by rw [p3]; simp [hb']))
    have hnn : (f1 ++ ((l.g :: fx) ++ f2)).Nodup := by
      have h1' := g3.1
      rw [p3, List.nil_append] at h1'
      have hperm : (f1 ++ ((l.g :: fx) ++ f2)).Perm (l.g :: ((f1 ++ f2) ++ fx)) := by
        refine (List.perm_middle (l₁ := f1) (a := l.g) (l₂ := fx ++ f2)).trans (List.Perm.cons _ ?_)
        rw [List.append_assoc]
        exact List.Perm.append_left f1 List.perm_append_comm
      refine hperm.symm.nodup (List.nodup_cons.2 ⟨fun hin => ?_, h1'⟩)
      exact hgn l.g (by rw [p3, List.nil_append]; exact hin) rfl
    have hb' : BRel w (Sof c.S0 fs) φ (some (sz, es')) (some l) (l.g :: fx) := ⟨hz, .inr ⟨arr, ty, vs, fx, rfl, r1, r2, g4, g1.up, r5, by rw [g5]; exact r6⟩⟩
    have hh := p4 w (Sof c.S0 fs) (fun _ => False) φ (some (sz, es')) (l.g :: fx) (Fr.refl _ w) (fun b hb => .inl hb) (fun _ h => h.elim) (Ext.refl φ) (fun _ _ h => h) (fun _ _ h => h) hb'
    refine h a w φ _ (hs.to (Fr.refl (fun _ => False) w) (fun _ h => h.elim) (fun b hb => .inl (hsub b hb)) (Ext.refl φ) hnn (hh.sub (fun b hb => hb.imp id (hsub b)))) ⟨hb.1, fun b hb2 => hb.2.1 b (hsub b hb2), hb.2.2⟩

/-- Other names for the blocks that are kept. -/
def idx (sel : List Nat) (m : Nat) : Option Nat :=
  match sel with
  | [] => none
  | x :: r => if Nat.beq m x then some 0 else (idx r m).map (· + 1)
mutual
def ren (sel : List Nat) : A → A
  | .sl m lo len => match idx sel m with
    | some i => .sl i lo len
    | none => .any
  | .ptr m i j => match idx sel m with
    | some q => .ptr q i j
    | none => .any
  | .agg cs => .agg (renL sel cs)
  | .tup cs => .tup (renL sel cs)
  | .fn f cs => .fn f (renL sel cs)
  | .row own sz es => if own then .any else .row false sz es
  | .box _ => .any
  | .any => .any
  | .int k n => .int k n
  | .bool b => .bool b
  | .str s => .str s
  | .nils => .nils
  | .nilp => .nilp
  | .rp sz es i j => .rp sz es i j
def renL (sel : List Nat) : List A → List A
  | [] => []
  | a :: as => ren sel a :: renL sel as
end
theorem idx_get {sel : List Nat} {m i : Nat} (h : idx sel m = some i) : sel[i]? = some m := by
  induction sel generalizing i with
  | nil => cases h
  | cons x r ih =>
    simp only [idx] at h
    split at h
    · rename_i e
      injection h with h
      subst h
      simp [Nat.eq_of_beq_eq_true e]
    · obtain ⟨j, h1, h2⟩ := Option.map_eq_some_iff.1 h
      subst h2
      simpa using ih h1
def pick (h : Heap) (sel : List Nat) : Heap := sel.map fun m => (h[m]?).getD none
def pickφ (φ : List (Option Loc)) (sel : List Nat) : List (Option Loc) := sel.map fun m => (φ[m]?).getD none
section ren
variable {w : World} {S : Nat → Prop} {φ : List (Option Loc)}
theorem pick_at {sel : List Nat} {m i : Nat} {l : Loc} (h : idx sel m = some i) (hm : φ[m]? = some (some l)) : (pickφ φ sel)[i]? = some (some l) := by
  unfold pickφ
  rw [List.getElem?_map, idx_get h]
  simp [hm]
mutual
theorem ren_rel {sel : List Nat} {x : A} {v : Value} (h : Rel w S φ x v []) : Rel w S (pickφ φ sel) (ren sel x) v [] := by
  cases x with
  | sl m lo len =>
    simp only [ren]
    split
    · rename_i i hi
      cases h with
      | sl hm hlo hl ha => exact .sl (pick_at hi hm) hlo hl ha
    · exact .any _
  | ptr m i j =>
    simp only [ren]
    split
    · rename_i q hi
      cases h with
      | ptr hm => exact .ptr (pick_at hi hm)
    · exact .any _
  | agg cs => cases h with | agg hr => exact .agg (renL_rel hr)
  | tup cs => cases h with | tup hr => exact .tup (renL_rel hr)
  | fn f cs => cases h with | fn hr => exact .fn (renL_rel hr)
  | row own sz es =>
    cases own with
    | true => exact .any _
    | false => cases h with
      | ro hu hr hc hl => exact .ro hu hr hc hl
      | ro0 => exact .ro0 _ _ _
  | box cs => cases h
  | any => exact .any _
  | int k n => cases h; exact .int _ _
  | bool b => cases h; exact .bool _
  | str s => cases h; exact .str _
  | nils => cases h; exact .nils
  | nilp => cases h; exact .nilp
  | rp sz es i j => cases h with | rp hu hr hc => exact .rp hu hr hc
theorem renL_rel {sel : List Nat} {xs : List A} {vs : List Value} (h : RelL w S φ xs vs []) : RelL w S (pickφ φ sel) (renL sel xs) vs [] := by
  cases xs with
  | nil => cases h; exact .nil
  | cons x xs =>
    generalize hf : ([] : List Nat) = f at h
    cases h with
    | cons h1 h2 =>
      obtain ⟨e1, e2⟩ := List.append_eq_nil_iff.1 hf.symm
      subst e1 e2
      exact .cons (f := []) (fs := []) (ren_rel h1) (renL_rel h2)
end
/-- The blocks that are kept. -/
theorem pick_heap {φ' : List (Option Loc)} (sel : List Nat) : ∀ {h : Heap} {fs : List Nat}, HRel w S φ h φ fs → fs.Nodup → sel.Nodup → (∀ m ∈ sel, ∀ sz es, h[m]? = some (some (sz, es)) → pureLL es = true) →
    ∃ fr, HRel w S φ' (pick h sel) (pickφ φ sel) fr ∧ fr.Nodup ∧ ∀ b ∈ fr, b ∈ fs := by
  induction sel with
  | nil => intro h fs H hn hs hp; exact ⟨[], .nil, by simp, by simp⟩
  | cons m sel ih =>
    intro h fs H hn hs hp
    have hs2 := List.nodup_cons.1 hs
    cases hm : h[m]? with
    | none =>
      obtain ⟨fr, g1, g2, g3⟩ := ih H hn hs2.2 (fun x hx => hp x (by simp [hx]))
      refine ⟨[] ++ fr, ?_, by simpa using g2, by simpa using g3⟩
      simp only [pick, pickφ, List.map_cons, hm]
      exact .cons rfl g1
    | some b =>
      cases b with
      | none =>
        obtain ⟨fr, g1, g2, g3⟩ := ih H hn hs2.2 (fun x hx => hp x (by simp [hx]))
        refine ⟨[] ++ fr, ?_, by simpa using g2, by simpa using g3⟩
        simp only [pick, pickφ, List.map_cons, hm]
        exact .cons rfl g1
      | some b =>
        obtain ⟨l, fr0, fb, q1, q2, q3, q4⟩ := H.kill hn hm
        have hnd := q4.nodup hn
        have hnd2 := List.nodup_append.1 hnd
        obtain ⟨fr, g1, g2, g3⟩ := ih q3 hnd2.1 hs2.2 (fun x hx sz es hxe => by
          by_cases e : x = m
          · subst e; exact absurd hx hs2.1
          · rw [List.getElem?_set_ne (fun h => e h.symm)] at hxe; exact hp x (by simp [hx]) sz es hxe)
        have heq : pick (h.set m none) sel = pick h sel := by
          unfold pick
          apply List.map_congr_left
          intro x hx
          have : m ≠ x := fun e => hs2.1 (by rw [e]; exact hx)
          rw [List.getElem?_set_ne this]
        rw [heq] at g1
        refine ⟨fb ++ fr, ?_, ?_, ?_⟩
        · simp only [pick, pickφ, List.map_cons, hm, q1, Option.getD_some]
          refine .cons ?_ g1
          obtain ⟨sz, es⟩ := b
          obtain ⟨hz, q2⟩ := q2
          refine ⟨hz, ?_⟩
          rcases q2 with q2 | ⟨arr, ty, vs, f0, rfl, r1, r2, r3, r4, r5, r6⟩
          · exact .inl q2
          · exact .inr ⟨arr, ty, vs, f0, rfl, r1, r2, r3, (pureLL_rel (hp m (by simp) sz es hm) r4).up, r5, r6⟩
        · exact List.nodup_append.2 ⟨hnd2.2.1, g2, fun a ha b hb e => by subst e; exact hnd2.2.2 a (g3 a hb) a ha rfl⟩
        · intro b hb
          rw [q4.mem_iff]
          rcases List.mem_append.1 hb with hb | hb
          · simp [hb]
          · simp [g3 b hb]
end ren
theorem look_map {f : A → A} (live : List Nat) (env : List (Nat × A)) (i : Nat) : look (live.map fun j => (j, f (look env j))) i = .any ∨ look (live.map fun j => (j, f (look env j))) i = f (look env i) := by
  induction live with
  | nil => exact .inl rfl
  | cons x l ih =>
    simp only [List.map_cons, look]
    split
    · rename_i e
      rw [Nat.eq_of_beq_eq_true e]
      exact .inr rfl
    · exact ih
/-- What is needed no more is forgotten, and the blocks that are kept get new names. -/
theorem G.canon (live sel : List Nat) (hs : sel.Nodup) (hφ : c.φ0 = []) (hp : ∀ m ∈ sel, ∀ sz es, st.heap[m]? = some (some (sz, es)) → pureLL es = true)
    (h : G c k ⟨live.map fun i => (i, ren sel (look st.env i)), pick st.heap sel, st.n⟩) : G c k st := by
  intro a w φ fs hr hb
  obtain ⟨fr, g1, g2, g3⟩ := pick_heap (φ' := pickφ φ sel) sel hr.heap hr.nodup hs hp
  refine h a w (pickφ φ sel) fr ⟨hr.defers, hr.size, fun i => ?_, g1.sub (fun b hb => hb.imp id (g3 b)), g2, fun b hb => hr.apart b (g3 b hb), hr.low⟩ ⟨hb.1, fun b hb2 => hb.2.1 b (g3 b hb2), by rw [hφ]; exact fun m l h => by simp at h⟩
  have : Rel w (Sof c.S0 fs) (pickφ φ sel) (look (live.map fun j => (j, ren sel (look st.env j))) i) (a.tmps.getD i undef) [] := by
    rcases look_map (f := ren sel) live st.env i with e | e
    · rw [e]; exact .any _
    · rw [e]; exact ren_rel (hr.env i)
  exact this.frame (Fr.refl (fun _ => False) w) (fun b hb => .inl (hb.imp id (g3 b))) (fun _ h => h.elim) (Ext.refl _) (fun _ _ h => h)
end
end Go.Proofs.Ytpdhoimpbiehkaa.Ab
