/- append: the memory behind it. -/
import Derived.Test.YtpdhoimpbiehkaaAbApp
namespace Go.Proofs.Ytpdhoimpbiehkaa.Ab
open Go
set_option linter.unusedVariables false
set_option linter.unusedSimpArgs false

section
variable {P : Program} {T : Tab} {S0 : Nat → Prop} {st : St} {a : Act} {w : World} {φ : List (Option Loc)} {fs : List Nat}

def hkill (h : Heap) : Option Nat → Heap
  | some m => h.set m none
  | none => h
theorem HRel.sub {S S' : Nat → Prop} {h : Heap} {ls : List (Option Loc)} {f : List Nat} (H : HRel w S φ h ls f) (hS : ∀ b, S' b → S b) : HRel w S' φ h ls f :=
  H.frame (Fr.refl (fun _ => False) w) (fun b hb => .inl (hS b hb)) (fun _ h => h.elim) (Ext.refl φ) (fun _ _ h => h)
/-- A block at a free place of a heap whose other blocks live on. -/
theorem HRel.place {w' : World} {S S' T : Nat → Prop} {h : Heap} {fs : List Nat} (H : HRel w S φ h φ fs) {base : Nat} (hf : hfree h φ base) {l : Loc} {b : Blk} {fb : List Nat}
    (hw : Fr T w w') (hS : ∀ b, S' b → S b ∨ w.heap.size ≤ b) (hT : ∀ b, T b → S b) (hfs : ∀ g ∈ fs, ¬ T g) (hb : BRel w' S' (φput φ base l) (some b) (some l) fb) :
    ∃ fs', HRel w' S' (φput φ base l) (hput h base b) (φput φ base l) fs' ∧ fs'.Perm (fs ++ fb) := by
  have hlen := H.length
  have hext := φput_ext (l := l) hlen hf
  rcases hf with e | ⟨e1, e2, e3⟩
  · have e4 : φput φ base l = φ ++ [some l] := by unfold φput; rw [if_neg (by omega)]
    have e0 : hput h base b = h ++ [some b] := by unfold hput; rw [if_neg (by omega)]
    have h1 := H.frame hw hS hT hext hfs
    have h2 := h1.snoc hb
    rw [e0]
    refine ⟨fs ++ fb, ?_, List.Perm.refl _⟩
    conv => arg 5; rw [e4]
    exact h2
  · have e4 : φput φ base l = φ.set base (some l) := by unfold φput; rw [if_pos (by omega)]
    have e0 : hput h base b = h.set base (some b) := by unfold hput; rw [if_pos e1]
    obtain ⟨l0, f1, f0, f2, q1, q2, q3, q4⟩ := H.at2 e2
    have : f0 = [] := q2
    subst this
    have := q4 w' S' T (φput φ base l) (some b) (some l) fb hw hS hT hext (fun g hg => hfs g (by rw [q3]; simp [hg])) (fun g hg => hfs g (by rw [q3]; simp [hg])) hb
    rw [e0]
    refine ⟨f1 ++ (fb ++ f2), ?_, ?_⟩
    · conv => arg 5; rw [e4]
      exact this
    · rw [q3]
      simp only [List.nil_append, List.append_assoc]
      exact List.Perm.append_left f1 List.perm_append_comm
/-- From one state to another: what has to be shown. -/
theorem SRel.to (h : SRel S0 st a w φ fs) {w' : World} {T : Nat → Prop} {φ' : List (Option Loc)} {h' : Heap} {fs' : List Nat} (hw : Fr T w w') (hT : ∀ b, T b → b ∈ fs) (hs : ∀ b, b ∈ fs' → b ∈ fs ∨ w.heap.size ≤ b) (hφ : Ext φ φ')
    (hn : fs'.Nodup) (hh : HRel w' (Sof S0 fs') φ' h' φ' fs') : SRel S0 { st with heap := h' } a w' φ' fs' :=
  ⟨h.defers, h.size, h.env_frame hw hT hs hφ, hh, hn, fun b hb => (hs b hb).elim (h.apart b) (fun hb hs => absurd (h.low b hs) (by omega)), fun b hb => Nat.lt_of_lt_of_le (h.low b hb) hw.size⟩

/-- A block is given up; another one, which has its memory or new memory, is put at a free place. -/
theorem SRel.swap (h : SRel S0 st a w φ fs) {base : Nat} (hf : hfree st.heap φ base) {k : Option Nat} {f1 fk f2 : List Nat} (hsplit : fs = f1 ++ (fk ++ f2))
    (hk : ∃ h1 : Heap, h1 = (hkill st.heap k) ∧ hfree h1 φ base ∧ HRel w (Sof S0 fs) φ h1 φ (f1 ++ f2))
    {w' : World} {T : Nat → Prop} {l : Loc} {b : Blk} {fb : List Nat} (hw : Fr T w w') (hT : ∀ b, T b → b ∈ fk) (hfb : ∀ b ∈ fb, b ∈ fk ∨ w.heap.size ≤ b) (hn : fb.Nodup)
    (hb : ∀ S', (∀ b, S' b → Sof S0 fs b ∨ w.heap.size ≤ b) → BRel w' S' (φput φ base l) (some b) (some l) fb) :
    ∃ fs', SRel S0 { st with heap := hput (hkill st.heap k) base b } a w' (φput φ base l) fs' ∧ Fr (fun g => g ∈ fs) w w' ∧ (∀ b, b ∈ fs' → b ∈ fs ∨ w.heap.size ≤ b) ∧ Ext φ (φput φ base l) ∧
      (φput φ base l)[base]? = some (some l) := by
  obtain ⟨h1, rfl, hf1, H1⟩ := hk
  have hlen := h.heap.length
  have hnd := h.nodup
  rw [hsplit] at hnd
  have hnd1 := List.nodup_append.1 hnd
  have hnd2 := List.nodup_append.1 hnd1.2.1
  have hin : ∀ b ∈ f1 ++ f2, b ∈ fs := fun b hb => by rw [hsplit]; rcases List.mem_append.1 hb with h | h <;> simp [h]
  have hink : ∀ b ∈ fk, b ∈ fs := fun b hb => by rw [hsplit]; simp [hb]
  have hdis : ∀ g ∈ f1 ++ f2, ¬ g ∈ fk := fun g hg hk => by
    rcases List.mem_append.1 hg with h | h
    · exact hnd1.2.2 g h g (by simp [hk]) rfl
    · exact hnd2.2.2 g hk g h rfl
  have hsub : ∀ b, (S0 b ∨ b ∈ (f1 ++ f2) ++ fb) → Sof S0 fs b ∨ w.heap.size ≤ b := fun b hb => by
    rcases hb with hb | hb
    · exact .inl (.inl hb)
    · rcases List.mem_append.1 hb with hb | hb
      · exact .inl (.inr (hin b hb))
      · exact (hfb b hb).imp (fun h => .inr (hink b h)) id
  obtain ⟨fs', H2, hp⟩ := H1.place hf1 (S' := fun b => S0 b ∨ b ∈ (f1 ++ f2) ++ fb) hw hsub (fun b hb => .inr (hink b (hT b hb))) (fun g hg ht => hdis g hg (hT g ht)) (hb _ hsub)
  have hmem : ∀ b, b ∈ fs' ↔ b ∈ (f1 ++ f2) ++ fb := fun b => hp.mem_iff
  refine ⟨fs', h.to hw (fun b hb => hink b (hT b hb)) (fun b hb => ?_) (φput_ext hlen hf) ?_ (H2.sub (fun b hb => hb.imp id (fun h => (hmem b).1 h))), hw.mono (fun b hb => hink b (hT b hb)), fun b hb => ?_, φput_ext hlen hf, φput_at hlen hf⟩
  · rcases List.mem_append.1 ((hmem b).1 hb) with hb | hb
    · exact .inl (hin b hb)
    · exact (hfb b hb).imp (hink b) id
  · refine hp.symm.nodup ?_
    refine List.nodup_append.2 ⟨List.nodup_append.2 ⟨hnd1.1, hnd2.2.1, fun x hx y hy e => hnd1.2.2 x hx y (by simp [hy]) e⟩, hn, ?_⟩
    intro x hx y hy e
    subst e
    rcases hfb x hy with hk | hk
    · exact hdis x hx hk
    · exact absurd (h.heap.lt x (hin x hx)) (by omega)
  · rcases List.mem_append.1 ((hmem b).1 hb) with hb | hb
    · exact .inl (hin b hb)
    · exact (hfb b hb).imp (hink b) id
end
end Go.Proofs.Ytpdhoimpbiehkaa.Ab
