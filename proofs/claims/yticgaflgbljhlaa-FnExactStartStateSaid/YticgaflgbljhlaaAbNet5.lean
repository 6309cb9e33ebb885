/- Networks that are made: plain definitions and lemmas. -/
import Derived.Test.YticgaflgbljhlaaAbNet3
namespace Go.Proofs.Yticgaflgbljhlaa.Ab
open Go
set_option linter.unusedVariables false
set_option linter.unusedSimpArgs false
theorem copyable_insv (l : List I4) : (l.map insv).all (fun y => y.all copyable) = true := by rw [List.all_map, List.all_eq_true]; exact fun x _ => rfl
theorem take_snoc {α : Type} [Inhabited α] {l : List α} {j : Nat} (h : j < l.length) : l.take j ++ [l.getD j default] = l.take (j + 1) := by
  rw [List.take_succ_eq_append_getElem h]
  simp [List.getD_eq_getElem?_getD, List.getElem?_eq_getElem h]
theorem net_small {ps : List PG} {ks : List LK} (h : netOk ps ks = true) : (∀ j < ps.length, (ps.getD j default).l.length ≤ 24) ∧ ∀ j < ks.length, (ks.getD j default).tk.length ≤ 400 := by
  have hw := netOk_w h
  refine ⟨fun j hj => (pg_bd hw.pg hj).2.2.2, fun j hj => ?_⟩
  have := hw.lk j hj
  simp only [linkOk, Bool.and_eq_true, strOk, decide_eq_true_eq] at this
  omega
def chk (ps : List PG) (ks : List LK) : List PG × List LK × Bool := if netOk ps ks = true then (ps, ks, true) else ([], [], false)
/-- The links of a chain, made in two ways. -/
def chS : Nat → List LK
  | 0 => []
  | j + 1 => chS j ++ [⟨(j : Int) - 1, 0, j, 0, []⟩]
def chI (n : Nat) (tk : List Int) : Nat → List LK
  | 0 => [⟨-1, 0, 0, 0, tk⟩]
  | k + 1 => chI n tk k ++ [⟨k, 0, if k + 1 = n then -1 else (k : Int) + 1, 0, []⟩]
def chainK (n : Nat) (tk : List Int) : List LK := (chS n).set 0 ⟨-1, 0, 0, 0, tk⟩ ++ [⟨(n : Int) - 1, 0, -1, 0, []⟩]
theorem chS_len (j : Nat) : (chS j).length = j := by
  induction j with
  | zero => rfl
  | succ j ih => simp [chS, ih]
theorem chI_len (n : Nat) (tk : List Int) (j : Nat) : (chI n tk j).length = j + 1 := by
  induction j with
  | zero => rfl
  | succ j ih => simp [chI, ih]
theorem chS_zero {j : Nat} (h : 0 < j) : (chS j)[0]? = some ⟨-1, 0, 0, 0, []⟩ := by
  induction j with
  | zero => omega
  | succ j ih =>
    cases j with
    | zero => rfl
    | succ j =>
      rw [chS, List.getElem?_append_left (by rw [chS_len]; omega)]
      exact ih (by omega)
theorem chI_S (n : Nat) (tk : List Int) : ∀ j < n, chI n tk j = (chS (j + 1)).set 0 ⟨-1, 0, 0, 0, tk⟩
  | 0, _ => rfl
  | j + 1, h => by
    rw [chI, chI_S n tk j (by omega), if_neg (by omega)]
    have e : chS (j + 1 + 1) = chS (j + 1) ++ [⟨((j + 1 : Nat) : Int) - 1, 0, (j + 1 : Nat), 0, []⟩] := rfl
    rw [e, List.set_append_left _ _ (by rw [chS_len]; omega)]
    congr 2
    simp
theorem chI_end {n : Nat} (tk : List Int) (h : 0 < n) : chI n tk n = chainK n tk := by
  obtain ⟨m, rfl⟩ : ∃ m, n = m + 1 := ⟨n - 1, by omega⟩
  rw [chI, chI_S (m + 1) tk m (by omega), if_pos rfl]
  unfold chainK
  congr 2
  simp
theorem chI_KW {n : Nat} {tk : List Int} (h : tk.length < 17592186044416) : ∀ j, KW (chI n tk j)
  | 0 => by
    intro x hx
    simp only [chI, List.mem_singleton] at hx
    rw [hx]; exact h
  | j + 1 => by
    intro x hx
    simp only [chI, List.mem_append, List.mem_singleton] at hx
    rcases hx with hx | hx
    · exact chI_KW h j x hx
    · rw [hx]; simp
def oneP (p : PG) : Bool := p.i == 1 && p.o == 1
def chainO (ps : List PG) (tk : List Int) : List PG × List LK × Bool := if (ps.all oneP && decide (0 < ps.length)) = true then chk ps (chainK ps.length tk) else ([], [], false)
theorem chainK_len (n : Nat) (tk : List Int) : (chainK n tk).length = n + 1 := by simp [chainK, chS_len]
theorem chainK_KW {n : Nat} {tk : List Int} (hn : 0 < n) (h : tk.length < 17592186044416) : KW (chainK n tk) := by rw [← chI_end tk hn]; exact chI_KW h n
theorem chain_no {ps : List PG} {tk : List Int} {j : Nat} (hj : j < ps.length) (h : oneP (ps.getD j default) = false) : chainO ps tk = ([], [], false) := by
  unfold chainO
  rw [gnot hj h, Bool.false_and, if_neg (by simp)]
theorem chain_nil {ps : List PG} {tk : List Int} (h : ps.length = 0) : chainO ps tk = ([], [], false) := by
  unfold chainO
  rw [h]
  simp
theorem chain_yes {ps : List PG} {tk : List Int} (hp : 0 < ps.length) (h : ∀ j < ps.length, oneP (ps.getD j default) = true) : chainO ps tk = chk ps (chainK ps.length tk) := by
  unfold chainO
  rw [gall (p := oneP) h, decide_eq_true hp]
  rfl
theorem chk_big {ps : List PG} {ks : List LK} (h : 12 < ps.length) : chk ps ks = ([], [], false) := by
  unfold chk
  rw [netOk_small (.inl (by omega))]
  simp
theorem chain_big {ps : List PG} {tk : List Int} (h : 12 < ps.length) : chainO ps tk = ([], [], false) := by
  unfold chainO
  split
  · exact chk_big h
  · rfl
def NS (ps : List PG) : Prop := ∀ p ∈ ps, p.l.length ≤ 1048576
theorem chain_out {ps : List PG} {tk : List Int} (h : (ps.length : Int) = 0 ∨ (ps.length : Int) > 12) : chainO ps tk = ([], [], false) := by
  rcases h with h | h
  · exact chain_nil (by omega)
  · exact chain_big (by omega)
theorem one_no {p : PG} (h : (if ¬ p.i = 1 then true else !(p.o == 1)) = true) : oneP p = false := by
  unfold oneP
  cases h1 : p.i == 1 <;> cases h2 : p.o == 1 <;> simp_all
theorem one_yes {p : PG} (h : (if ¬ p.i = 1 then true else !(p.o == 1)) = false) : oneP p = true := by
  unfold oneP
  cases h1 : p.i == 1 <;> cases h2 : p.o == 1 <;> simp_all
theorem chk_bd (ps : List PG) (ks : List LK) : (chk ps ks).1.length ≤ 12 ∧ (chk ps ks).2.1.length ≤ 30 ∧ (∀ p ∈ (chk ps ks).1, p.l.length ≤ 24) ∧ ∀ x ∈ (chk ps ks).2.1, x.tk.length ≤ 400 := by
  unfold chk
  split
  · rename_i h
    have hw := netOk_w h
    have hs := net_small h
    refine ⟨hw.pl, hw.kl, fun p hp => ?_, fun x hx => ?_⟩
    · obtain ⟨j, hj, rfl⟩ := List.getElem_of_mem hp
      have := hs.1 j hj
      simpa [hj] using this
    · obtain ⟨j, hj, rfl⟩ := List.getElem_of_mem hx
      have := hs.2 j hj
      simpa [hj] using this
  · simp
theorem chain_bd (ps : List PG) (tk : List Int) : (chainO ps tk).1.length ≤ 12 ∧ (chainO ps tk).2.1.length ≤ 30 ∧ (∀ p ∈ (chainO ps tk).1, p.l.length ≤ 24) ∧ ∀ x ∈ (chainO ps tk).2.1, x.tk.length ≤ 400 := by
  unfold chainO
  split
  · exact chk_bd _ _
  · simp
end Go.Proofs.Yticgaflgbljhlaa.Ab
