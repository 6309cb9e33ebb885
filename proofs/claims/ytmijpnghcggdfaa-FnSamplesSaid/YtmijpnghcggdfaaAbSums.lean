/- Streams parted, summed and put together again: plain laws. -/
import Derived.Test.YtmijpnghcggdfaaAbCur
namespace Go.Proofs.Ytmijpnghcggdfaa.Ab
open Go
set_option linter.unusedVariables false
set_option linter.unusedSimpArgs false
def part (p : Nat → Bool) (rs : List Int) : Nat → List Int × List Int
  | 0 => ([], [])
  | j + 1 => if p j = true then ((part p rs j).1 ++ [rs.getD j default], (part p rs j).2) else ((part p rs j).1, (part p rs j).2 ++ [rs.getD j default])
theorem part_y {p : Nat → Bool} {rs : List Int} {j : Nat} (h : p j = true) : part p rs (j + 1) = ((part p rs j).1 ++ [rs.getD j default], (part p rs j).2) := by rw [part, if_pos h]
theorem part_n {p : Nat → Bool} {rs : List Int} {j : Nat} (h : p j = false) : part p rs (j + 1) = ((part p rs j).1, (part p rs j).2 ++ [rs.getD j default]) := by rw [part, if_neg (by rw [h]; exact Bool.false_ne_true)]
theorem part_len (p : Nat → Bool) (rs : List Int) : ∀ j, (part p rs j).1.length + (part p rs j).2.length = j
  | 0 => rfl
  | j + 1 => by
    have ih := part_len p rs j
    cases h : p j with
    | true => rw [part_y h]; simp only [List.length_append, List.length_singleton]; omega
    | false => rw [part_n h]; simp only [List.length_append, List.length_singleton]; omega
def evenP (j : Nat) : Bool := (j : Int).tmod 2 == 0
def routeP (rs : List Int) (m : Int) (j : Nat) : Bool := (rs.getD j default).tmod m == 0
theorem route_one (rs : List Int) (m : Int) : ∀ j, (∀ x ∈ (part (routeP rs m) rs j).1, x.tmod m = 0) ∧ ∀ x ∈ (part (routeP rs m) rs j).2, x.tmod m ≠ 0
  | 0 => by simp [part]
  | j + 1 => by
    have ih := route_one rs m j
    cases h : routeP rs m j with
    | true =>
      rw [part_y h]
      refine ⟨fun x hx => ?_, ih.2⟩
      rcases List.mem_append.1 hx with hx | hx
      · exact ih.1 x hx
      · rw [List.mem_singleton.1 hx]; simpa [routeP] using h
    | false =>
      rw [part_n h]
      refine ⟨ih.1, fun x hx => ?_⟩
      rcases List.mem_append.1 hx with hx | hx
      · exact ih.2 x hx
      · rw [List.mem_singleton.1 hx]; simpa [routeP] using h
theorem even_part (rs : List Int) : ∀ n, part evenP rs n = ((List.range ((n + 1) / 2)).map (fun k => rs.getD (2 * k) default), (List.range (n / 2)).map (fun k => rs.getD (2 * k + 1) default))
  | 0 => rfl
  | n + 1 => by
    have ih := even_part rs n
    have ht : (n : Int).tmod 2 = ((n % 2 : Nat) : Int) := by rw [Int.tmod_eq_emod_of_nonneg (by omega)]; omega
    rcases Nat.mod_two_eq_zero_or_one n with h | h
    · have hp : evenP n = true := by unfold evenP; rw [ht, h]; rfl
      rw [part_y hp, ih]
      have e1 : (n + 1 + 1) / 2 = (n + 1) / 2 + 1 := by omega
      have e2 : (n + 1) / 2 = n / 2 := by omega
      have e3 : 2 * (n / 2) = n := by omega
      rw [e1, e2, List.range_succ, List.map_append, List.map_singleton, e3]
    · have hp : evenP n = false := by unfold evenP; rw [ht, h]; rfl
      rw [part_n hp, ih]
      have e1 : (n + 1 + 1) / 2 = (n + 1) / 2 := by omega
      have e2 : (n + 1) / 2 = n / 2 + 1 := by omega
      have e3 : 2 * (n / 2) + 1 = n := by omega
      rw [e1, e2, List.range_succ, List.map_append, List.map_append, List.map_singleton, List.map_singleton, e3]
/-- Sums, and the last one. -/
def sumsL (rs : List Int) : Nat → List Int × Int
  | 0 => ([], 0)
  | j + 1 => ((sumsL rs j).1 ++ [wrapT ((sumsL rs j).2 + rs.getD j default)], wrapT ((sumsL rs j).2 + rs.getD j default))
def lastA (rs : List Int) : Nat → Int
  | 0 => 0
  | j + 1 => rs.getD j default
def stepsL (rs : List Int) : Nat → List Int
  | 0 => []
  | j + 1 => stepsL rs j ++ [wrapT (rs.getD j default - lastA rs j)]
theorem sumsL_len (rs : List Int) : ∀ j, (sumsL rs j).1.length = j
  | 0 => rfl
  | j + 1 => by simp [sumsL, sumsL_len rs j]
theorem stepsL_len (rs : List Int) : ∀ j, (stepsL rs j).length = j
  | 0 => rfl
  | j + 1 => by simp [stepsL, stepsL_len rs j]
theorem sumsL_ok (rs : List Int) : ∀ j, (∀ x ∈ (sumsL rs j).1, -999999 ≤ x ∧ x ≤ 999999) ∧ -999999 ≤ (sumsL rs j).2 ∧ (sumsL rs j).2 ≤ 999999
  | 0 => by simp [sumsL]
  | j + 1 => by
    have ih := sumsL_ok rs j
    refine ⟨fun x hx => ?_, wrapT_tok _⟩
    simp only [sumsL, List.mem_append, List.mem_singleton] at hx
    rcases hx with hx | hx
    · exact ih.1 x hx
    · rw [hx]; exact wrapT_tok _
theorem stepsL_ok (rs : List Int) : ∀ j, ∀ x ∈ stepsL rs j, -999999 ≤ x ∧ x ≤ 999999
  | 0 => by simp [stepsL]
  | j + 1 => by
    intro x hx
    simp only [stepsL, List.mem_append, List.mem_singleton] at hx
    rcases hx with hx | hx
    · exact stepsL_ok rs j x hx
    · rw [hx]; exact wrapT_tok _
theorem wrapT_q (n : Int) : ∃ q, n = wrapT n + 1999999 * q := by
  have h := Int.tmod_add_mul_tdiv n 1999999
  unfold wrapT
  split
  · exact ⟨n.tdiv 1999999 + 1, by omega⟩
  · split
    · exact ⟨n.tdiv 1999999 - 1, by omega⟩
    · exact ⟨n.tdiv 1999999, by omega⟩
theorem wrapT_un {n x q : Int} (h : n = x + 1999999 * q) (h1 : -999999 ≤ x) (h2 : x ≤ 999999) : wrapT n = x := by
  obtain ⟨q2, e⟩ := wrapT_q n
  have := wrapT_tok n
  generalize wrapT n = w at *
  omega
theorem getD_snoc (l : List Int) (x : Int) {n : Nat} (h : l.length = n) : (l ++ [x]).getD n default = x := by
  rw [List.getD_eq_getElem?_getD, List.getElem?_append_right (by omega), h]
  simp
theorem getD_old (l : List Int) (x : Int) {n : Nat} (h : n < l.length) : (l ++ [x]).getD n default = l.getD n default := by
  rw [List.getD_eq_getElem?_getD, List.getElem?_append_left h, List.getD_eq_getElem?_getD]
theorem sumsL_get (rs : List Int) : ∀ n j, j < n → (sumsL rs n).1.getD j default = (sumsL rs (j + 1)).2
  | 0, j, h => by omega
  | n + 1, j, h => by
    have hl := sumsL_len rs n
    by_cases e : j = n
    · subst e; rw [sumsL, getD_snoc _ _ hl]
    · rw [sumsL, getD_old _ _ (by omega)]; exact sumsL_get rs n j (by omega)
theorem stepsL_get (rs : List Int) : ∀ n j, j < n → (stepsL rs n).getD j default = wrapT (rs.getD j default - lastA rs j)
  | 0, j, h => by omega
  | n + 1, j, h => by
    have hl := stepsL_len rs n
    by_cases e : j = n
    · subst e; rw [stepsL, getD_snoc _ _ hl]
    · rw [stepsL, getD_old _ _ (by omega)]; exact stepsL_get rs n j (by omega)
theorem lastA_sums (rs : List Int) (n j : Nat) (h : j ≤ n) : lastA (sumsL rs n).1 j = (sumsL rs j).2 := by
  cases j with
  | zero => rfl
  | succ j => exact sumsL_get rs n j (by omega)
theorem take_snoc (rs : List Int) {j : Nat} (h : j < rs.length) : rs.take (j + 1) = rs.take j ++ [rs.getD j default] := by
  rw [List.take_add_one, List.getD_eq_getElem?_getD, List.getElem?_eq_getElem h]
  rfl
theorem getD_tok {rs : List Int} (ht : ∀ x ∈ rs, -999999 ≤ x ∧ x ≤ 999999) {j : Nat} (h : j < rs.length) : -999999 ≤ rs.getD j default ∧ rs.getD j default ≤ 999999 := by
  rw [List.getD_eq_getElem?_getD, List.getElem?_eq_getElem h]
  exact ht _ (List.getElem_mem h)
theorem steps_sums {rs : List Int} (ht : ∀ x ∈ rs, -999999 ≤ x ∧ x ≤ 999999) : ∀ j, j ≤ rs.length → stepsL (sumsL rs rs.length).1 j = rs.take j
  | 0, _ => by simp [stepsL]
  | j + 1, h => by
    rw [stepsL, steps_sums ht j (by omega), take_snoc rs (by omega), sumsL_get rs _ j (by omega), lastA_sums rs _ j (by omega)]
    congr 2
    obtain ⟨q, e⟩ := wrapT_q ((sumsL rs j).2 + rs.getD j default)
    have hb := getD_tok ht (j := j) (by omega)
    refine wrapT_un (q := -q) ?_ hb.1 hb.2
    show wrapT ((sumsL rs j).2 + rs.getD j default) - (sumsL rs j).2 = _
    omega
theorem sums_steps {rs : List Int} (ht : ∀ x ∈ rs, -999999 ≤ x ∧ x ≤ 999999) : ∀ j, j ≤ rs.length → sumsL (stepsL rs rs.length) j = (rs.take j, lastA rs j)
  | 0, _ => by simp [sumsL, lastA]
  | j + 1, h => by
    have hb := getD_tok ht (j := j) (by omega)
    have e : wrapT (lastA rs j + wrapT (rs.getD j default - lastA rs j)) = rs.getD j default := by
      obtain ⟨q, e⟩ := wrapT_q (rs.getD j default - lastA rs j)
      exact wrapT_un (q := -q) (by omega) hb.1 hb.2
    rw [sumsL, sums_steps ht j (by omega), stepsL_get rs _ j (by omega), e, take_snoc rs (by omega)]
    rfl
def altL (a b : List Int) : Nat → List Int
  | 0 => []
  | j + 1 => altL a b j ++ [if j % 2 = 1 then b.getD (j / 2) default else a.getD (j / 2) default]
def altN (a b : List Int) : Nat := min 400 (min (2 * a.length) (2 * b.length + 1))
theorem altL_len (a b : List Int) : ∀ j, (altL a b j).length = j
  | 0 => rfl
  | j + 1 => by simp [altL, altL_len a b j]
theorem alt_even (rs : List Int) : ∀ j, j ≤ rs.length → altL (part evenP rs rs.length).1 (part evenP rs rs.length).2 j = rs.take j
  | 0, _ => by simp [altL]
  | j + 1, h => by
    rw [altL, alt_even rs j (by omega), take_snoc rs (by omega), even_part]
    congr 2
    have gm : ∀ (f : Nat → Int) (n k : Nat), k < n → ((List.range n).map f).getD k default = f k := fun f n k h => by
      rw [List.getD_eq_getElem?_getD, List.getElem?_map, List.getElem?_range h]; rfl
    simp only
    split
    · rename_i h1
      rw [gm _ _ _ (by omega)]
      congr 1
      omega
    · rename_i h1
      rw [gm _ _ _ (by omega)]
      congr 1
      omega
theorem altN_even (rs : List Int) (h : rs.length ≤ 400) : altN (part evenP rs rs.length).1 (part evenP rs rs.length).2 = rs.length := by
  rw [even_part]
  simp only [altN, List.length_map, List.length_range]
  omega
theorem strOk_mk {rs : List Int} (h : ∀ x ∈ rs, -999999 ≤ x ∧ x ≤ 999999) (hl : rs.length ≤ 400) : strOk rs = true := by
  simp only [strOk, Bool.and_eq_true, decide_eq_true_eq, List.all_eq_true]
  exact ⟨fun x hx => tok_iff.2 (h x hx), by omega⟩
theorem strOk_len2 {rs : List Int} (h : strOk rs = true) : rs.length ≤ 400 := by
  simp only [strOk, Bool.and_eq_true, decide_eq_true_eq] at h
  omega
theorem part_ok (p : Nat → Bool) {rs : List Int} (h : ∀ x ∈ rs, -999999 ≤ x ∧ x ≤ 999999) : ∀ j, j ≤ rs.length → (∀ x ∈ (part p rs j).1, -999999 ≤ x ∧ x ≤ 999999) ∧ ∀ x ∈ (part p rs j).2, -999999 ≤ x ∧ x ≤ 999999
  | 0, _ => by simp [part]
  | j + 1, hj => by
    have ih := part_ok p h j (by omega)
    have hb := getD_tok h (j := j) (by omega)
    cases hp : p j with
    | true =>
      rw [part_y hp]
      refine ⟨fun x hx => ?_, ih.2⟩
      rcases List.mem_append.1 hx with hx | hx
      · exact ih.1 x hx
      · rw [List.mem_singleton.1 hx]; exact hb
    | false =>
      rw [part_n hp]
      refine ⟨ih.1, fun x hx => ?_⟩
      rcases List.mem_append.1 hx with hx | hx
      · exact ih.2 x hx
      · rw [List.mem_singleton.1 hx]; exact hb
end Go.Proofs.Ytmijpnghcggdfaa.Ab
