/- What three steps of a small program come to: plain lemmas. -/
import Derived.Test.YtmijpnghcggdfaaAbStp2
import Derived.Test.YtmijpnghcggdfaaFwB
namespace Go.Proofs.Ytmijpnghcggdfaa.Ab
open Go
set_option linter.unusedVariables false
set_option linter.unusedSimpArgs false
set_option linter.unusedSectionVars false
theorem bv_eq (x : Int) : bv x = [.int .u8 x] := rfl
theorem pureLL_bv (l : List Int) : pureLL (l.map bv) = true := pureLL_all (fun _ => rfl) l
theorem bv_inj {l l' : List Int} : l.map bv = l'.map bv ↔ l = l' := ⟨map_inj (fun x y h => by simpa [bv] using h), fun h => by rw [h]⟩
/-- Bytes are bytes. -/
structure BW (bs : List Int) : Prop where
  ok : ∀ x ∈ bs, 0 ≤ x ∧ x ≤ 255
/-- A byte of a code, or a number that follows from it. -/
def atO (bs : List Int) (k : Int) : Int := if k < (bs.length : Int) then bs.getD k.toNat default else (k * 37 + (bs.length : Int) * 11).tmod 256
theorem atO_ok {bs : List Int} (h : BW bs) {k : Int} (h0 : 0 ≤ k) : 0 ≤ atO bs k ∧ atO bs k ≤ 255 := by
  unfold atO
  split
  · have hk : k.toNat < bs.length := by omega
    have := h.ok _ (List.getElem_mem hk)
    rw [List.getD_eq_getElem?_getD, List.getElem?_eq_getElem hk]
    exact this
  · have h1 := tmod_lt (k * 37 + (bs.length : Int) * 11) 256 (by omega)
    rcases tmod_cases (k * 37 + (bs.length : Int) * 11) 256 (by omega) with ⟨_, e⟩ | ⟨h2, _⟩
    · rw [e] at h1 ⊢; omega
    · omega
def tokL (op : Int) : List I4 := [(op, 2, 0, 1), (10, 2, 3, 0), (11, 0, 0, 0)]
def tokV (op x y : Int) : Int := valR (op, 2, 0, 1) [x, y, 0, 0] 0
section
variable {op x y : Int} (hop : op = 4 ∨ op = 5 ∨ op = 6 ∨ op = 7) (hx : -999999 ≤ x ∧ x ≤ 999999) (hy : -999999 ≤ y ∧ y ≤ 999999)
include hop hx hy
theorem tok_prog : progOk 0 0 (tokL op) = true := by
  rcases hop with rfl | rfl | rfl | rfl <;> decide
theorem tok_reg : RegOk (op, 2, 0, 1) [x, y, 0, 0] := by
  refine ⟨?_, ?_, fun _ => ?_, fun r hr => ?_, ?_⟩
  · show (0 : Int) ≤ 2; omega
  · show (2 : Int) < 4; omega
  · show (0 : Int) ≤ 0 ∧ (0 : Int) < 4 ∧ (0 : Int) ≤ 1 ∧ (1 : Int) < 4; omega
  · simp only [List.mem_cons, List.not_mem_nil, or_false] at hr
    omega
  · show 4 ≤ 400; omega
theorem tokV_ok : -999999 ≤ tokV op x y ∧ tokV op x y ≤ 999999 := by
  have hr := tok_reg hop hx hy
  unfold tokV
  exact valR_tok (i := 0) (o := 0) (n := 3) hr (by rcases hop with rfl | rfl | rfl | rfl <;> decide) (fun h => by simp only at h; omega)
theorem tok_act {pc v : Int} (hv : -999999 ≤ v ∧ v ≤ 999999) (h0 : 0 ≤ pc) (h1 : pc ≤ 3) : actOk pc ((tokL op).length : Nat) [x, y, v, 0] = true := by
  have hl : (((tokL op).length : Nat) : Int) = 3 := rfl
  rw [hl]
  simp only [actOk, inR, strOk, tok, List.all_cons, List.all_nil, Bool.and_eq_true, decide_eq_true_eq, beq_iff_eq, and_true, List.length_cons, List.length_nil]
  omega
theorem tok_want0 : wantK (tokL op) 0 = (1, 0) := by rcases hop with rfl | rfl | rfl | rfl <;> decide
theorem tok_want1 : wantK (tokL op) 1 = (1, 0) := by rcases hop with rfl | rfl | rfl | rfl <;> decide
theorem tok_want2 : wantK (tokL op) 2 = (0, 0) := by rcases hop with rfl | rfl | rfl | rfl <;> decide
theorem tok_want3 : wantK (tokL op) 3 = (0, 0) := by rcases hop with rfl | rfl | rfl | rfl <;> decide
theorem tok_step1 : stepO 0 0 (tokL op) 0 [x, y, 0, 0] 0 = ((1, [x, y, tokV op x y, 0]), 0, true) := by
  have hb : stepBad 0 0 (tokL op) 0 [x, y, 0, 0] 0 = false := by
    unfold stepBad
    rw [tok_prog hop hx hy, tok_act hop hx hy (by omega) (by omega) (by omega), tok_want0 hop hx hy]
    rfl
  unfold stepO
  rw [hb]
  simp only [Bool.false_eq_true, if_false]
  have hg : (tokL op).getD (0 : Int).toNat default = (op, 2, 0, 1) := rfl
  rw [hg]
  have h8 : stepPc (op, 2, 0, 1) 0 [x, y, 0, 0] = 1 := by
    unfold stepPc
    rw [if_neg (by simp only; omega)]
    rfl
  have hw : stepW (op, 2, 0, 1) [x, y, 0, 0] = 0 := by unfold stepW; rw [if_neg (by simp only; omega)]
  rw [h8, hw]
  rfl
theorem tok_step2 {v : Int} (hv : -999999 ≤ v ∧ v ≤ 999999) : stepO 0 0 (tokL op) 1 [x, y, v, 0] 0 = ((if v < 0 then 3 else 2, [x, y, v, 0]), 0, true) := by
  have hb : stepBad 0 0 (tokL op) 1 [x, y, v, 0] 0 = false := by
    unfold stepBad
    rw [tok_prog hop hx hy, tok_act hop hx hy hv (by omega) (by omega), tok_want1 hop hx hy]
    rfl
  unfold stepO
  rw [hb]
  simp only [Bool.false_eq_true, if_false]
  have hg : (tokL op).getD (1 : Int).toNat default = (10, 2, 3, 0) := rfl
  rw [hg]
  have h8 : stepPc (10, 2, 3, 0) 1 [x, y, v, 0] = if v < 0 then 3 else 2 := by
    show (if (10 : Int) = 8 ∨ ((10 : Int) = 9 ∧ v = 0) ∨ ((10 : Int) = 10 ∧ v < 0) then (3 : Int) else 1 + 1) = _
    by_cases h : v < 0
    · rw [if_pos (by omega), if_pos h]
    · rw [if_neg (by omega), if_neg h]; rfl
  rw [h8]
  rfl
theorem tok_step3 {pc v : Int} (hpc : pc = 2 ∨ pc = 3) : stepO 0 0 (tokL op) pc [x, y, v, 0] 0 = ((0, []), 0, false) := by
  have hb : stepBad 0 0 (tokL op) pc [x, y, v, 0] 0 = true := by
    unfold stepBad
    rcases hpc with rfl | rfl
    · rw [tok_want2 hop hx hy]; simp
    · rw [tok_want3 hop hx hy]; simp
  unfold stepO
  rw [hb]
  rfl
end
theorem tok_rest {x y : Int} (hy : -999999 ≤ y ∧ y ≤ 999999) : 0 ≤ tokV 7 x y ∧ (y ≠ 0 → (x - tokV 7 x y).tmod y = 0) := by
  have e : tokV 7 x y = restT x y := rfl
  rw [e]
  have h1 := restT_ok (x := x) hy
  refine ⟨h1.1, fun hy0 => ?_⟩
  unfold restT
  rw [if_neg hy0]
  have hm : 0 < max y (-y) := by omega
  have hd := Int.tmod_add_mul_tdiv x (max y (-y))
  have key : ∀ k : Int, (max y (-y) * k).tmod y = 0 := by
    intro k
    rcases Int.lt_or_lt_of_ne hy0 with h | h
    · rw [show max y (-y) = -y by omega, Int.neg_mul, Int.neg_tmod, Int.mul_tmod_right]; rfl
    · rw [show max y (-y) = y by omega, Int.mul_tmod_right]
  split
  · have : x - (x.tmod (max y (-y)) + max y (-y)) = max y (-y) * (x.tdiv (max y (-y)) - 1) := by
      rw [Int.mul_sub, Int.mul_one]; omega
    rw [this]; exact key _
  · have : x - x.tmod (max y (-y)) = max y (-y) * x.tdiv (max y (-y)) := by omega
    rw [this]; exact key _
end Go.Proofs.Ytmijpnghcggdfaa.Ab
