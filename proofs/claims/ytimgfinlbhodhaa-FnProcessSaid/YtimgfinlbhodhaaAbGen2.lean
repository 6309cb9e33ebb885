/- Programs that are drawn: they read ahead of all else, and jumps go forward, but for the last one. What is written then stays short. -/
import Derived.Test.YtimgfinlbhodhaaAbGen
import Derived.Test.YtimgfinlbhodhaaAbMono
namespace Go.Proofs.Ytimgfinlbhodhaa.Ab
open Go
set_option linter.unusedVariables false
set_option linter.unusedSimpArgs false
def fwB (k : Nat) (x : I4) : Bool := !(x.1 == 8) && (!(x.1 == 9 || x.1 == 10) || decide ((k : Int) < x.2.2.1)) && (!(k == 0) || (x.1 == 1 && x.2.2.1 == 0))
structure RF (i o : Int) (L : List (List Int)) (B : Nat) : Prop where
  rw : RW i o L B
  fw : ∀ k < L.length, fwB k (pad4 (L.getD k default)) = true
structure RFp (i o : Int) (L : List (List Int)) (B : Nat) : Prop where
  rf : RF i o L B
  pos : 0 < L.length
section
variable {i o : Int} {L : List (List Int)} {B B' : Nat} {r : List Int}
theorem rf_nil (i o : Int) : RF i o [] 0 := ⟨rw_nil i o, by simp⟩
theorem RF.more (h : RF i o L B) (hb : B ≤ B') : RF i o L B' := ⟨h.rw.more hb, h.fw⟩
theorem RF.len (h : RF i o L B) : L.length ≤ B := h.rw.len
theorem rf_add (h : RF i o L B) (hr : rowOk i o ((L.length : Int) + 2) r) (hf : fwB L.length (pad4 r) = true) : RF i o (L ++ [r]) (B + 1) := by
  refine ⟨rw_add h.rw hr, fun k hk => ?_⟩
  by_cases e : k < L.length
  · rw [List.getD_eq_getElem?_getD, List.getElem?_append_left e, ← List.getD_eq_getElem?_getD]
    exact h.fw k e
  · have : k = L.length := by simp at hk; omega
    subst this
    simpa [List.getD_eq_getElem?_getD] using hf
theorem RFp.more (h : RFp i o L B) (hb : B ≤ B') : RFp i o L B' := ⟨h.rf.more hb, h.pos⟩
theorem RFp.len (h : RFp i o L B) : L.length ≤ B := h.rf.rw.len
theorem RFp.ok (h : RFp i o L B) : ∀ r ∈ L, rowOk i o ((L.length : Int) + 1) r := h.rf.rw.ok
theorem rfp_of (h : RF i o L B) (hl : 0 < L.length) : RFp i o L B := ⟨h, hl⟩
theorem rfp_add (h : RFp i o L B) (hr : rowOk i o ((L.length : Int) + 2) r) (hf : 0 < L.length → fwB L.length (pad4 r) = true) : RFp i o (L ++ [r]) (B + 1) := ⟨rf_add h.rf hr (hf h.pos), by simp⟩
theorem fw_read {n : Nat} {a j : Int} (h : n = 0 → j = 0) : fwB n (pad4 [1, a, j]) = true := by
  show fwB n (1, a, j, 0) = true
  unfold fwB
  by_cases e : n = 0
  · subst e; simp [h rfl]
  · simp [e]
theorem fw_op {n : Nat} {r : List Int} (hn : 0 < n) (h8 : (pad4 r).1 ≠ 8) (h9 : (pad4 r).1 ≠ 9) (h10 : (pad4 r).1 ≠ 10) : fwB n (pad4 r) = true := by
  unfold fwB
  have : n ≠ 0 := by omega
  simp [this, h8, h9, h10]
theorem fw_alu {n : Nat} {p a b c : Int} (hp : p ∈ [(4 : Int), 5, 6, 7]) (hn : 0 < n) : fwB n (pad4 [p, a, b, c]) = true := by
  simp only [List.mem_cons, List.not_mem_nil, or_false] at hp
  have e : (pad4 [p, a, b, c]).1 = p := rfl
  exact fw_op hn (by rw [e]; omega) (by rw [e]; omega) (by rw [e]; omega)
theorem fw_set {n : Nat} {a b : Int} (hn : 0 < n) : fwB n (pad4 [3, a, b]) = true := fw_op hn (by show (3 : Int) ≠ 8; decide) (by show (3 : Int) ≠ 9; decide) (by show (3 : Int) ≠ 10; decide)
theorem fw_write {n : Nat} {a b : Int} (hn : 0 < n) : fwB n (pad4 [2, a, b]) = true := fw_op hn (by show (2 : Int) ≠ 8; decide) (by show (2 : Int) ≠ 9; decide) (by show (2 : Int) ≠ 10; decide)
theorem fw_halt {n : Nat} (hn : 0 < n) : fwB n (pad4 [11]) = true := fw_op hn (by show (11 : Int) ≠ 8; decide) (by show (11 : Int) ≠ 9; decide) (by show (11 : Int) ≠ 10; decide)
theorem fw_jump {n : Nat} {p a t : Int} (hp : p ∈ [(9 : Int), 10]) (ht : (n : Int) < t) (hn : 0 < n) : fwB n (pad4 [p, a, t]) = true := by
  simp only [List.mem_cons, List.not_mem_nil, or_false] at hp
  show fwB n (p, a, t, 0) = true
  unfold fwB
  have e : n ≠ 0 := by omega
  have e8 : p ≠ 8 := by omega
  simp [e, e8, ht]
end
structure FwP (l : List I4) : Prop where
  op0 : (l.getD 0 default).1 = 1
  pt0 : (l.getD 0 default).2.2.1 = 0
  jmp : ∀ k : Nat, 0 < k → k < l.length → ∀ rs, stepPc (l.getD k default) k rs = 0 ∨ (k : Int) < stepPc (l.getD k default) k rs
theorem fw_prog {i o : Int} {L : List (List Int)} {B : Nat} (h : RFp i o L B) : FwP (L.map pad4 ++ [(8, 0, 0, 0)]) := by
  have hg : ∀ k, k < L.length → (L.map pad4 ++ [((8, 0, 0, 0) : I4)]).getD k default = pad4 (L.getD k default) := fun k hk => by
    rw [List.getD_eq_getElem?_getD, List.getElem?_append_left (by simpa using hk), List.getElem?_map, List.getElem?_eq_getElem hk, List.getD_eq_getElem?_getD, List.getElem?_eq_getElem hk]
    rfl
  have h0 := h.rf.fw 0 h.pos
  rw [← hg 0 h.pos] at h0
  simp only [fwB, Bool.and_eq_true, Bool.or_eq_true, Bool.not_eq_true', beq_iff_eq] at h0
  have h1 : (_ ∧ _) := h0.2.resolve_left (by simp)
  refine ⟨h1.1, h1.2, fun k hk hl rs => ?_⟩
  by_cases e : k < L.length
  · have hf := h.rf.fw k e
    rw [← hg k e] at hf
    obtain ⟨x, hx⟩ : ∃ x, (L.map pad4 ++ [((8, 0, 0, 0) : I4)]).getD k default = x := ⟨_, rfl⟩
    rw [hx] at hf ⊢
    simp only [fwB, Bool.and_eq_true, Bool.or_eq_true, Bool.not_eq_true', beq_eq_false_iff_ne, decide_eq_true_eq, Bool.or_eq_false_iff] at hf
    right
    unfold stepPc
    split
    · rename_i hj
      rcases hf.1.2 with h2 | h2
      · omega
      · exact h2
    · omega
  · have : k = L.length := by simp at hl; omega
    subst this
    left
    have : (L.map pad4 ++ [((8, 0, 0, 0) : I4)]).getD L.length default = (8, 0, 0, 0) := by simp [List.getD_eq_getElem?_getD]
    rw [this]
    rfl
structure FwI (s : PS) : Prop where
  at0 : s.pc = 0 → ∀ k : Nat, ((s.outs.getD k default).length : Int) ≤ 24 * s.used.getD 0 default
  on : 0 < s.pc → 1 ≤ s.used.getD 0 default ∧ ∀ k : Nat, ((s.outs.getD k default).length : Int) ≤ 24 * (s.used.getD 0 default - 1) + s.pc
section
variable {i o : Int} {l : List I4} {ins : List (List Int)} {s : PS}
theorem fw_init (i o : Int) : FwI (ps0 i o) := by
  refine ⟨fun _ k => ?_, fun h => absurd h (by simp [ps0])⟩
  have e1 : ((ps0 i o).outs.getD k default) = [] := by
    show (List.replicate o.toNat ([] : List Int)).getD k default = []
    rw [List.getD_eq_getElem?_getD, List.getElem?_replicate]
    split <;> rfl
  have e2 : (ps0 i o).used.getD 0 default = 0 := by
    show (List.replicate i.toNat (0 : Int)).getD 0 default = 0
    rw [List.getD_eq_getElem?_getD, List.getElem?_replicate]
    split <;> rfl
  rw [e1, e2]
  simp
theorem next_outs (s : PS) (k : Nat) : ((nextP l ins s).outs.getD k default).length ≤ (s.outs.getD k default).length + 1 := by
  simp only [nextP]
  split
  · rw [gset_any]
    split
    · rename_i h; rw [h.1, List.length_append]; exact Nat.le_refl _
    · omega
  · omega
theorem next_used (s : PS) (k : Nat) : s.used.getD k default ≤ (nextP l ins s).used.getD k default := by
  simp only [nextP]
  split
  · rw [gset_any]
    split
    · rename_i h; rw [h.1]; omega
    · omega
  · omega
theorem fw_next (hp : progOk i o l = true) (hi : 1 ≤ i) (hf : FwP l) (w : PW i o l ins s) (hs : ¬ (wP l s).1 = 0) (h : FwI s) : FwI (nextP l ins s) := by
  have hlt := w.lt hs
  have h0 := w.pc0.1
  have hl24 : (l.length : Int) ≤ 24 := by
    simp only [progOk, inR, Bool.and_eq_true, decide_eq_true_eq] at hp
    omega
  have hpc : (nextP l ins s).pc = stepPc (l.getD s.pc.toNat default) s.pc s.rs := rfl
  by_cases e : s.pc = 0
  · have hw : wP l s = (2, 0) := by
      unfold wP wantK
      rw [e]
      have : ¬ (0 : Int) = (l.length : Int) := by omega
      rw [if_neg this]
      show (if (l.getD 0 default).1 = 11 then ((0 : Int), (0 : Int)) else if (l.getD 0 default).1 = 1 then (2, (l.getD 0 default).2.2.1) else if (l.getD 0 default).1 = 2 then (3, (l.getD 0 default).2.2.1) else (1, 0)) = (2, 0)
      rw [hf.op0, hf.pt0]
      rfl
    have hpc1 : (nextP l ins s).pc = 1 := by
      rw [hpc, e]
      show stepPc (l.getD 0 default) 0 s.rs = 1
      unfold stepPc
      rw [hf.op0]
      rfl
    have hu : (nextP l ins s).used.getD 0 default = s.used.getD 0 default + 1 := by
      have hul := w.ul
      simp only [nextP, hw, if_true]
      rw [gset_any, if_pos ⟨rfl, by show 0 < s.used.length; omega⟩]
      rfl
    have ho : (nextP l ins s).outs = s.outs := by
      simp only [nextP, hw]
      rfl
    refine ⟨fun h1 => by rw [hpc1] at h1; omega, fun _ => ?_⟩
    rw [hu, ho, hpc1]
    have hub := w.ub 0 (by have := w.ul; omega)
    refine ⟨by omega, fun k => ?_⟩
    have := h.at0 e k
    omega
  · obtain ⟨g1, g2⟩ := h.on (by omega)
    have hj := hf.jmp s.pc.toNat (by omega) (by omega) s.rs
    rw [show ((s.pc.toNat : Nat) : Int) = s.pc by omega, ← hpc] at hj
    have hu := next_used (l := l) (ins := ins) s 0
    refine ⟨fun h1 k => ?_, fun h1 => ⟨by omega, fun k => ?_⟩⟩
    · have := next_outs (l := l) (ins := ins) s k
      have := g2 k
      omega
    · have := next_outs (l := l) (ins := ins) s k
      have := g2 k
      omega
theorem fw_short (hi : 1 ≤ i) (w : PW i o l ins s) (hl : l.length ≤ 24) (h : FwI s) (h10 : (ins.getD 0 default).length ≤ 10) (k : Nat) : (s.outs.getD k default).length ≤ 240 := by
  have hub := w.ub 0 (by have := w.ul; omega)
  have hpc := w.pc0
  by_cases e : s.pc = 0
  · have := h.at0 e k
    omega
  · have := (h.on (by omega)).2 k
    omega
theorem goP_end {n : Nat} (h : stopP l ins s = true ∨ n = 0) : (goP l ins n s).1 = s := by
  rcases h with h | h
  · rw [goP_stop h]
  · subst h
    cases hs : stopP l ins s with
    | true => rw [goP_stop hs]
    | false => rw [goP_zero hs]
end
end Go.Proofs.Ytimgfinlbhodhaa.Ab
