/- Plain mathematics of streams: no program in sight. -/
namespace Go.Proofs.Ytpdhoimpbiehkaa.M
/-- A token. -/
def tok (n : Int) : Bool := decide (-999999 ≤ n) && decide (n ≤ 999999)
/-- A stream. -/
def str (l : List Int) : Bool := decide (l.length ≤ 400) && l.all tok
/-- The first place at which a test holds, or -1. -/
def ix {α : Type} (p : α → Bool) : List α → Int
  | [] => -1
  | x :: l => if p x then 0 else if ix p l < 0 then -1 else ix p l + 1
theorem ix_range {α : Type} (p : α → Bool) (l : List α) : -1 ≤ ix p l ∧ ix p l < l.length := by
  induction l with
  | nil => simp [ix]
  | cons x l ih =>
    simp only [ix, List.length_cons]
    split
    · omega
    · split <;> omega
theorem ix_neg {α : Type} (p : α → Bool) (l : List α) : ix p l < 0 ↔ l.any p = false := by
  induction l with
  | nil => simp [ix]
  | cons x l ih =>
    have h := ix_range p l
    simp only [ix, List.any_cons]
    by_cases hx : p x = true
    · simp [hx]
    · have hx' : p x = false := by simpa using hx
      simp only [hx', Bool.false_or, Bool.false_eq_true, if_false]
      rw [← ih]
      split <;> omega
theorem ix_append_miss {α : Type} (p : α → Bool) (a b : List α) (h : a.any p = false) : ix p (a ++ b) = if ix p b < 0 then -1 else ix p b + a.length := by
  induction a with
  | nil =>
    have := ix_range p b
    simp only [List.nil_append, List.length_nil]
    split <;> omega
  | cons x a ih =>
    simp only [List.any_cons, Bool.or_eq_false_iff] at h
    have := ix_range p b
    simp only [List.cons_append, ix, h.1, Bool.false_eq_true, if_false, ih h.2, List.length_cons]
    split
    · simp
    · simp only [show ¬ (ix p b + (a.length : Int) < 0) by omega, if_false]
      omega
/-- Hit at place k, none before. -/
theorem ix_hit {α : Type} (p : α → Bool) (l : List α) (k : Nat) (x : α) (hk : l[k]? = some x) (hx : p x = true) (hb : (l.take k).any p = false) : ix p l = k := by
  obtain ⟨hl, he⟩ := List.getElem?_eq_some_iff.1 hk
  have hs : l = l.take k ++ (x :: l.drop (k + 1)) := by
    rw [← he, ← List.drop_eq_getElem_cons hl, List.take_append_drop]
  rw [hs, ix_append_miss p _ _ hb]
  simp only [ix, hx, if_true]
  simp
  omega
theorem ix_miss {α : Type} (p : α → Bool) (l : List α) (h : l.any p = false) : ix p l = -1 := by
  have := ix_range p l
  have := (ix_neg p l).2 h
  omega
theorem any_take_succ {α : Type} (p : α → Bool) (l : List α) (k : Nat) (x : α) (hk : l[k]? = some x) (h : (l.take k).any p = false) (hx : p x = false) : (l.take (k + 1)).any p = false := by
  obtain ⟨hl, he⟩ := List.getElem?_eq_some_iff.1 hk
  rw [List.take_succ_eq_append_getElem hl, List.any_append, h, he]
  simp [hx]
theorem str_any (l : List Int) (h : l.length ≤ 400) : str l = !(l.any fun n => !tok n) := by
  simp [str, h, List.all_eq_not_any_not]
theorem str_long (l : List Int) (h : ¬ l.length ≤ 400) : str l = false := by simp [str, h]
/-- Does the second list begin with the first one? -/
def pre : List Int → List Int → Bool
  | [], _ => true
  | _ :: _, [] => false
  | x :: a, y :: b => x == y && pre a b
theorem pre_long (a b : List Int) (h : ¬ a.length ≤ b.length) : pre a b = false := by
  induction a generalizing b with
  | nil => simp at h
  | cons x a ih =>
    cases b with
    | nil => rfl
    | cons y b => simp only [pre, ih b (by simp at h ⊢; omega), Bool.and_false]
theorem pre_take (a b : List Int) (h : a.length ≤ b.length) : (a == b.take a.length) = pre a b := by
  induction a generalizing b with
  | nil => simp [pre]
  | cons x a ih =>
    cases b with
    | nil => simp at h
    | cons y b =>
      simp only [List.length_cons, List.take_succ_cons, List.cons_beq_cons, pre]
      rw [ih b (by simp at h; omega)]
theorem pre_iff (a b : List Int) : pre a b = true ↔ a <+: b := by
  induction a generalizing b with
  | nil => simp [pre]
  | cons x a ih =>
    cases b with
    | nil => simp [pre]
    | cons y b => simp [pre, ih]
/-- Streams, one of which begins with the other one. -/
def isPre (a b : List Int) : Bool := str a && str b && pre a b
/-- The token that differs by a multiple of 1999999. -/
def wrap (n : Int) : Int := (n + 999999) % 1999999 - 999999
/-- The longest common beginning. -/
def meet : List Int → List Int → List Int
  | x :: a, y :: b => if x = y then x :: meet a b else []
  | _, _ => []
theorem meet_nil_right (a : List Int) : meet a [] = [] := by cases a <;> rfl
theorem meet_nil_left (b : List Int) : meet [] b = [] := rfl
/-- Sums from s on, and steps from a last one on. -/
def sums (s : Int) : List Int → List Int
  | [] => []
  | x :: l => wrap (s + x) :: sums (wrap (s + x)) l
def steps (s : Int) : List Int → List Int
  | [] => []
  | x :: l => wrap (x - s) :: steps x l
theorem sums_length (s : Int) (l : List Int) : (sums s l).length = l.length := by
  induction l generalizing s with
  | nil => rfl
  | cons x l ih => simp [sums, ih]
theorem steps_length (s : Int) (l : List Int) : (steps s l).length = l.length := by
  induction l generalizing s with
  | nil => rfl
  | cons x l ih => simp [steps, ih]
theorem meet_length (a b : List Int) : (meet a b).length ≤ a.length := by
  induction a generalizing b with
  | nil => simp [meet]
  | cons x a ih =>
    cases b with
    | nil => simp [meet]
    | cons y b =>
      simp only [meet]
      split
      · have := ih b; simp; omega
      · simp
/-- In turn, beginning with the first one. -/
def alt : Nat → List Int → List Int → List Int
  | 0, _, _ => []
  | _ + 1, [], _ => []
  | n + 1, x :: a, b => x :: alt n b a
/-- Each one k times. -/
def hold (k : Nat) : List Int → List Int
  | [] => []
  | x :: l => List.replicate k x ++ hold k l
theorem hold_length (k : Nat) (l : List Int) : (hold k l).length = l.length * k := by
  induction l with
  | nil => simp [hold]
  | cons x l ih => simp [hold, ih, Nat.add_mul]; omega
/-- The elements whose places (from i on) a test takes. -/
def sel (p : Nat → Bool) (i : Nat) : List Int → List Int
  | [] => []
  | x :: l => if p i then x :: sel p (i + 1) l else sel p (i + 1) l
theorem sel_length (p : Nat → Bool) (i : Nat) (l : List Int) : (sel p i l).length ≤ l.length := by
  induction l generalizing i with
  | nil => simp [sel]
  | cons x l ih =>
    have := ih (i + 1)
    simp only [sel]
    split <;> simp <;> omega
theorem sel_append (p : Nat → Bool) (i : Nat) (a b : List Int) : sel p i (a ++ b) = sel p i a ++ sel p (i + a.length) b := by
  induction a generalizing i with
  | nil => simp [sel]
  | cons x a ih =>
    simp only [List.cons_append, sel, ih, List.length_cons]
    rw [show i + 1 + a.length = i + (a.length + 1) by omega]
    split <;> simp
theorem sel_succ (p : Nat → Bool) (l : List Int) (k : Nat) (y : Int) (h : l[k]? = some y) : sel p 0 (l.take (k + 1)) = sel p 0 (l.take k) ++ (if p k = true then [y] else []) := by
  obtain ⟨hl, he⟩ := List.getElem?_eq_some_iff.1 h
  rw [List.take_succ_eq_append_getElem hl, sel_append, he, List.length_take, Nat.min_eq_left (by omega), Nat.zero_add]
  simp only [sel]
theorem tmod_cases (a n : Int) (hn : 0 < n) : (0 ≤ a ∧ a.tmod n = a % n) ∨ (a < 0 ∧ a.tmod n = -((-a) % n)) := by
  rcases Int.lt_or_le a 0 with h | h
  · refine .inr ⟨h, ?_⟩
    have h1 := Int.tmod_eq_emod_of_nonneg (b := n) (show 0 ≤ -a by omega)
    rw [Int.neg_tmod] at h1
    omega
  · exact .inl ⟨h, Int.tmod_eq_emod_of_nonneg h⟩
theorem wrap_range (n : Int) : -999999 ≤ wrap n ∧ wrap n ≤ 999999 := by unfold wrap; omega
theorem tok_wrap (n : Int) : tok (wrap n) = true := by have := wrap_range n; simp [tok]; omega
theorem wrap_tok (n : Int) (h : tok n = true) : wrap n = n := by simp [tok] at h; unfold wrap; omega
theorem wrap_add (k n : Int) : wrap (n + 1999999 * k) = wrap n := by
  unfold wrap
  rw [show n + 1999999 * k + 999999 = (n + 999999) + 1999999 * k by omega, Int.add_mul_emod_self_left]
theorem wrap_cong {a b : Int} (h : (a - b) % 1999999 = 0) : wrap a = wrap b := by
  obtain ⟨k, hk⟩ := Int.dvd_of_emod_eq_zero h
  rw [show a = b + 1999999 * k by omega, wrap_add]
theorem mul_bd {a b A B : Int} (h0 : 0 ≤ a) (h1 : a ≤ A) (k0 : 0 ≤ b) (k1 : b ≤ B) : 0 ≤ a * b ∧ a * b ≤ A * B := ⟨Int.mul_nonneg h0 k0, Int.mul_le_mul h1 k1 k0 (by omega)⟩
end Go.Proofs.Ytpdhoimpbiehkaa.M
