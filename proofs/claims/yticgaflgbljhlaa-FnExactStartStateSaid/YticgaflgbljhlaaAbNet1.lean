/- Networks: how much they hold, marks in them. Plain definitions and lemmas. -/
import Derived.Test.YticgaflgbljhlaaFwB
import Derived.Test.YticgaflgbljhlaaAbP7
import Derived.Test.YticgaflgbljhlaaAbP10
namespace Go.Proofs.Yticgaflgbljhlaa.Ab
open Go
set_option linter.unusedVariables false
set_option linter.unusedSimpArgs false
set_option linter.unusedSectionVars false
abbrev pL (p : PG) : Nat := p.l.length
abbrev kL (x : LK) : Nat := x.tk.length
abbrev aL (x : AT) : Nat := x.rs.length
abbrev sL (x : List Int) : Nat := x.length
theorem szT_step {α : Type} [Inhabited α] {f : α → Nat} {rs : List α} {n : Int} {j : Nat} (h : j < rs.length) (hk : 0 ≤ n - (rs.length : Int) - (gtot f (rs.take j) : Int))
    (h3 : ¬ n - (rs.length : Int) - (gtot f (rs.take j) : Int) - (f (rs.getD j default) : Int) < 0) : n - (rs.length : Int) - (gtot f (rs.take j) : Int) - (f (rs.getD j default) : Int) = n - (rs.length : Int) - (gtot f (rs.take (j + 1)) : Int) ∧ 0 ≤ n - (rs.length : Int) - (gtot f (rs.take (j + 1)) : Int) := by
  have := gtot_succ (f := f) h
  omega
theorem szT_neg {α : Type} [Inhabited α] {f : α → Nat} {rs : List α} {n : Int} {j : Nat} (h : j < rs.length) (h3 : n - (rs.length : Int) - (gtot f (rs.take j) : Int) - (f (rs.getD j default) : Int) < 0) : szT n rs.length (gtot f rs) = -1 := by
  have := gtot_get (f := f) h
  unfold szT
  rw [if_pos (by omega)]
theorem szT_lt {n : Int} {a b : Nat} (h : szT n a b < 0) : szT n a b = -1 := by
  unfold szT at h ⊢
  split at h
  · rename_i hh; rw [if_pos hh]
  · omega
theorem szT_le {n : Int} {a b : Nat} (hn : n ≤ 1048576) : szT n a b ≤ 1048576 := by unfold szT; split <;> omega
def szNet (n : Int) (ps : List PG) (ks : List LK) : Int := if szT n ps.length (gtot pL ps) < 0 then -1 else szT (szT n ps.length (gtot pL ps)) ks.length (gtot kL ks)
theorem szNet_le {n : Int} {ps : List PG} {ks : List LK} (hn : n ≤ 1048576) : szNet n ps ks ≤ 1048576 := by
  unfold szNet
  split
  · omega
  · exact szT_le (szT_le hn)
theorem szNet_ok {n : Int} {ps : List PG} {ks : List LK} (h : ¬ szNet n ps ks < 0) : ((ps.length + gtot pL ps + ks.length + gtot kL ks : Nat) : Int) + szNet n ps ks = n := by
  unfold szNet at h ⊢
  split at h
  · omega
  · rename_i h1
    rw [if_neg h1]
    unfold szT at h h1 ⊢
    split at h1
    · omega
    · rename_i h2
      rw [if_neg h2] at h ⊢
      split at h
      · omega
      · rename_i h3
        rw [if_neg h3]
        omega
/-! ### Marks -/
section
variable {α : Type} [Inhabited α] {w : α → Nat} {m : Int → α → α}
def mkG (w : α → Nat) (m : Int → α → α) : Int → List α → List α
  | _, [] => []
  | n, r :: rs => m n r :: mkG w m (n + (w r : Int)) rs
theorem mkG_len (n : Int) (rs : List α) : (mkG w m n rs).length = rs.length := by
  induction rs generalizing n with
  | nil => rfl
  | cons r rs ih => simp [mkG, ih]
theorem mkG_app (n : Int) (a b : List α) : mkG w m n (a ++ b) = mkG w m n a ++ mkG w m (n + (gtot w a : Int)) b := by
  induction a generalizing n with
  | nil => simp [mkG, gtot_nil]
  | cons r a ih => simp only [List.cons_append, mkG, ih, gtot_cons]; rw [show n + (w r : Int) + (gtot w a : Int) = n + ((w r + gtot w a : Nat) : Int) by omega]
theorem mkG_get {n : Int} {rs : List α} {j : Nat} (h : j < rs.length) : (mkG w m n rs).getD j default = m (n + (gtot w (rs.take j) : Int)) (rs.getD j default) := by
  induction rs generalizing n j with
  | nil => simp at h
  | cons r rs ih =>
    cases j with
    | zero => simp [mkG, gtot_nil]
    | succ j =>
      simp only [mkG, List.getD_cons_succ, List.take_succ_cons, gtot_cons]
      rw [ih (by simpa using h)]
      congr 1
      omega
def upG (w : α → Nat) (m : Int → α → α) (n : Int) (rs : List α) (j : Nat) : List α := mkG w m n (rs.take j) ++ rs.drop j
theorem upG_zero (n : Int) (rs : List α) : upG w m n rs 0 = rs := by simp [upG, mkG]
theorem upG_full (n : Int) (rs : List α) : upG w m n rs rs.length = mkG w m n rs := by simp [upG]
theorem upG_len (n : Int) {rs : List α} {j : Nat} (h : j ≤ rs.length) : (upG w m n rs j).length = rs.length := by simp [upG, mkG_len]; omega
theorem upG_get (n : Int) {rs : List α} {j : Nat} (h : j < rs.length) : (upG w m n rs j).getD j default = rs.getD j default := by
  unfold upG
  have hl : (mkG w m n (rs.take j)).length = j := by rw [mkG_len, List.length_take]; omega
  rw [List.getD_eq_getElem?_getD, List.getElem?_append_right (by omega), hl, Nat.sub_self, List.getElem?_drop, List.getD_eq_getElem?_getD, Nat.add_zero]
theorem upG_set (n : Int) {rs : List α} {j : Nat} (h : j < rs.length) : (upG w m n rs j).set j (m (n + (gtot w (rs.take j) : Int)) (rs.getD j default)) = upG w m n rs (j + 1) := by
  unfold upG
  have hl : (mkG w m n (rs.take j)).length = j := by rw [mkG_len, List.length_take]; omega
  rw [List.set_append_right _ _ (by omega), hl, Nat.sub_self, List.drop_eq_getElem_cons h, List.set_cons_zero, List.take_succ_eq_append_getElem h, mkG_app]
  simp [mkG, h]
variable [DecidableEq α]
def heldG (w : α → Nat) (m : Int → α → α) (n : Int) (rs : List α) : Int := if rs = mkG w m n rs then n + (gtot w rs : Int) else -1
theorem heldG_no {n : Int} {rs : List α} {j : Nat} (h : j < rs.length) (hn : rs.getD j default ≠ m (n + (gtot w (rs.take j) : Int)) (rs.getD j default)) : heldG w m n rs = -1 := by
  unfold heldG
  rw [if_neg]
  intro e
  apply hn
  have := mkG_get (w := w) (m := m) (n := n) h
  rw [← e] at this
  exact this
theorem heldG_yes {n : Int} {rs : List α} (h : ∀ j < rs.length, rs.getD j default = m (n + (gtot w (rs.take j) : Int)) (rs.getD j default)) : heldG w m n rs = n + (gtot w rs : Int) := by
  unfold heldG
  rw [if_pos]
  apply List.ext_getElem (by rw [mkG_len])
  intro j h1 h2
  have := h j h1
  rw [← mkG_get (w := w) (m := m) h1] at this
  simpa [h1, h2] using this
theorem held_up {n : Int} {rs : List α} {j : Nat} (h : ∀ k < j, rs.getD k default = m (n + (gtot w (rs.take k) : Int)) (rs.getD k default)) (h2 : rs.getD j default = m (n + (gtot w (rs.take j) : Int)) (rs.getD j default)) :
    ∀ k < j + 1, rs.getD k default = m (n + (gtot w (rs.take k) : Int)) (rs.getD k default) := by
  intro k hk
  by_cases e : k = j
  · rw [e]; exact h2
  · exact h k (by omega)
theorem mkG_tot (hw : ∀ n r, w (m n r) = w r) (n : Int) (rs : List α) : gtot w (mkG w m n rs) = gtot w rs := by
  induction rs generalizing n with
  | nil => rfl
  | cons r rs ih => simp only [mkG, gtot_cons, hw, ih]
theorem mkG_two (hw : ∀ n r, w (m n r) = w r) (hm : ∀ n n' r, m n (m n' r) = m n r) (n n' : Int) (rs : List α) : mkG w m n (mkG w m n' rs) = mkG w m n rs := by
  induction rs generalizing n n' with
  | nil => rfl
  | cons r rs ih => simp only [mkG, hw, hm, ih]
theorem heldG_mk (hw : ∀ n r, w (m n r) = w r) (hm : ∀ n n' r, m n (m n' r) = m n r) (n : Int) (rs : List α) : heldG w m n (mkG w m n rs) = n + (gtot w rs : Int) := by
  unfold heldG
  rw [mkG_two hw hm, if_pos rfl, mkG_tot hw]
end
def wPg (p : PG) : Nat := 2 + 4 * p.l.length
def mPg (n : Int) (p : PG) : PG := ⟨n, n + 1, mkP (n + 1 + 1) p.l.length⟩
def wLk (x : LK) : Nat := 4 + x.tk.length
def mLk (n : Int) (x : LK) : LK := ⟨n, n + 1, n + 1 + 1, n + 1 + 1 + 1, mkI (n + 1 + 1 + 1 + 1) x.tk.length⟩
def wAt (x : AT) : Nat := 1 + x.rs.length
def mAt (n : Int) (x : AT) : AT := ⟨n, mkI (n + 1) x.rs.length⟩
theorem wPg_m (n : Int) (p : PG) : wPg (mPg n p) = wPg p := by simp [wPg, mPg, mkP_len]
theorem mPg_m (n n' : Int) (p : PG) : mPg n (mPg n' p) = mPg n p := by simp [mPg, mkP_len]
theorem wLk_m (n : Int) (x : LK) : wLk (mLk n x) = wLk x := by simp [wLk, mLk, mkI_len]
theorem mLk_m (n n' : Int) (x : LK) : mLk n (mLk n' x) = mLk n x := by simp [mLk, mkI_len]
theorem wAt_m (n : Int) (x : AT) : wAt (mAt n x) = wAt x := by simp [wAt, mAt, mkI_len]
theorem mAt_m (n n' : Int) (x : AT) : mAt n (mAt n' x) = mAt n x := by simp [mAt, mkI_len]
def mkPS (n : Int) (ps : List PG) : List PG := mkG wPg mPg n ps
def mkKS (n : Int) (ks : List LK) : List LK := mkG wLk mLk n ks
def mkAS (n : Int) (ks : List AT) : List AT := mkG wAt mAt n ks
def heldPS (n : Int) (ps : List PG) : Int := heldG wPg mPg n ps
def heldKS (n : Int) (ks : List LK) : Int := heldG wLk mLk n ks
def heldAS (n : Int) (ks : List AT) : Int := heldG wAt mAt n ks
def tP (ps : List PG) : Nat := gtot wPg ps
def tK (ks : List LK) : Nat := gtot wLk ks
def tA (ks : List AT) : Nat := gtot wAt ks
theorem heldPS_mk (n : Int) (ps : List PG) : heldPS n (mkPS n ps) = n + (tP ps : Int) := heldG_mk wPg_m mPg_m n ps
theorem heldKS_mk (n : Int) (ps : List LK) : heldKS n (mkKS n ps) = n + (tK ps : Int) := heldG_mk wLk_m mLk_m n ps
theorem heldAS_mk (n : Int) (ps : List AT) : heldAS n (mkAS n ps) = n + (tA ps : Int) := heldG_mk wAt_m mAt_m n ps
theorem mkPS_len (n : Int) (ps : List PG) : (mkPS n ps).length = ps.length := mkG_len n ps
theorem mkKS_len (n : Int) (ps : List LK) : (mkKS n ps).length = ps.length := mkG_len n ps
theorem mkAS_len (n : Int) (ps : List AT) : (mkAS n ps).length = ps.length := mkG_len n ps
theorem mkPS_tot (n : Int) (ps : List PG) : tP (mkPS n ps) = tP ps := mkG_tot wPg_m n ps
theorem mkKS_tot (n : Int) (ps : List LK) : tK (mkKS n ps) = tK ps := mkG_tot wLk_m n ps
theorem mkAS_tot (n : Int) (ps : List AT) : tA (mkAS n ps) = tA ps := mkG_tot wAt_m n ps
theorem gtot_lin {α : Type} (a b : Nat) (f : α → Nat) (rs : List α) : gtot (fun r => a + b * f r) rs = a * rs.length + b * gtot f rs := by
  induction rs with
  | nil => simp [gtot_nil]
  | cons r rs ih => simp only [gtot_cons, ih, List.length_cons, Nat.mul_add, Nat.mul_one]; omega
theorem tP_eq (ps : List PG) : tP ps = 2 * ps.length + 4 * gtot pL ps := gtot_lin 2 4 pL ps
theorem tK_eq (ks : List LK) : tK ks = 4 * ks.length + gtot kL ks := by
  have := gtot_lin 4 1 kL ks
  simp only [Nat.one_mul] at this
  exact this
theorem tA_eq (ks : List AT) : tA ks = ks.length + gtot aL ks := by
  have := gtot_lin 1 1 aL ks
  simp only [Nat.one_mul] at this
  exact this
def heldN (n : Int) (ps : List PG) (ks : List LK) : Int := if heldPS n ps < 0 then -1 else if heldKS (heldPS n ps) ks < 0 then -1 else heldKS (heldPS n ps) ks
end Go.Proofs.Yticgaflgbljhlaa.Ab
