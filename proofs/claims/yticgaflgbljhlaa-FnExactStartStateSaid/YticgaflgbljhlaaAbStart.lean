/- States at the start; marks in states. Plain definitions and lemmas. -/
import Derived.Test.YticgaflgbljhlaaAbState
import Derived.Test.YticgaflgbljhlaaAbNet5
import Derived.Test.YticgaflgbljhlaaAbReg0
namespace Go.Proofs.Yticgaflgbljhlaa.Ab
open Go
set_option linter.unusedVariables false
set_option linter.unusedSimpArgs false
structure ST where
  xs : List AT
  qs : List (List Int)
  hs : List (List Int)
  t : Int
  deriving Inhabited, DecidableEq
def tkL (ks : List LK) : List (List Int) := ks.map LK.tk
def actN (n : Nat) : List AT := List.replicate n ⟨0, [0, 0, 0, 0]⟩
def startO (ps : List PG) (ks : List LK) : ST := if netOk ps ks = true then ⟨actN ps.length, tkL ks, tkL ks, 0⟩ else ⟨[], [], [], 0⟩
theorem tkL_len (ks : List LK) : (tkL ks).length = ks.length := by simp [tkL]
theorem actN_len (n : Nat) : (actN n).length = n := by simp [actN]
theorem actN_succ (n : Nat) : actN n ++ [⟨0, [0, 0, 0, 0]⟩] = actN (n + 1) := by simp [actN, List.replicate_succ']
theorem tkL_get {ks : List LK} {j : Nat} (h : j < ks.length) : (tkL ks).getD j default = (ks.getD j default).tk := by simp [tkL, List.getD_eq_getElem?_getD, h]
theorem tkL_snoc {ks : List LK} {j : Nat} (h : j < ks.length) : (tkL ks).take j ++ [(ks.getD j default).tk] = (tkL ks).take (j + 1) := by
  rw [← tkL_get h]
  exact take_snoc (by rw [tkL_len]; exact h)
theorem regs_ok {ps : List PG} {ks : List LK} (h : netOk ps ks = true) {j : Nat} (hj : j < ps.length) : regs0 (ps.getD j default).i (ps.getD j default).o (ps.getD j default).l = [0, 0, 0, 0] := by
  have : progOk (ps.getD j default).i (ps.getD j default).o (ps.getD j default).l = true := List.all_eq_true.1 (netOk_w h).pg _ (getD_mem0 hj)
  unfold regs0
  rw [this]
  rfl
theorem start_bd (ps : List PG) (ks : List LK) : (startO ps ks).xs.length ≤ 12 ∧ (startO ps ks).qs.length ≤ 30 ∧ (startO ps ks).hs.length ≤ 30 ∧ (∀ x ∈ (startO ps ks).xs, x.rs.length ≤ 4) ∧ (∀ r ∈ (startO ps ks).qs, r.length ≤ 400) ∧ ∀ r ∈ (startO ps ks).hs, r.length ≤ 400 := by
  unfold startO
  split
  · rename_i h
    have hw := netOk_w h
    have hs := net_small h
    have ht : ∀ r ∈ tkL ks, r.length ≤ 400 := fun r hr => by
      obtain ⟨x, hx, rfl⟩ := List.mem_map.1 hr
      obtain ⟨j, hj, rfl⟩ := List.getElem_of_mem hx
      have := hs.2 j hj
      simpa [hj] using this
    refine ⟨by rw [actN_len]; exact hw.pl, by rw [tkL_len]; exact hw.kl, by rw [tkL_len]; exact hw.kl, fun x hx => ?_, ht, ht⟩
    unfold actN at hx
    rw [(List.mem_replicate.1 hx).2]
    simp
  · simp
def heldSt (n : Int) (xs : List AT) (qs hs : List (List Int)) : Int := if heldAS n xs < 0 then -1 else if heldSS (heldAS n xs) qs < 0 then -1 else if heldSS (heldSS (heldAS n xs) qs) hs < 0 then -1 else heldSS (heldSS (heldAS n xs) qs) hs
theorem heldSS_le {n : Int} (h : 0 ≤ n) (rs : List (List Int)) : heldSS n rs ≤ n + (tot rs : Int) := by
  induction rs generalizing n with
  | nil => simp [heldSS, tot_nil]
  | cons r rs ih =>
    unfold heldSS
    split
    · omega
    · rename_i h1
      rcases heldI_cases n r with e | e
      · omega
      · rw [e, tot_cons]
        have := ih (n := n + r.length) (by omega)
        omega
theorem heldSt_mk (n : Int) (hn : 0 ≤ n) (xs : List AT) (qs hs : List (List Int)) : heldSt n (mkAS n xs) (mkSS (n + (tA xs : Int)) qs) (mkSS (n + (tA xs : Int) + (tot qs : Int)) hs) = n + (tA xs : Int) + (tot qs : Int) + (tot hs : Int) := by
  unfold heldSt
  rw [heldAS_mk, if_neg (by omega), heldSS_mk _ (by omega), if_neg (by omega), heldSS_mk _ (by omega), if_neg (by omega)]
theorem mkSS_tot (n : Int) (rs : List (List Int)) : tot (mkSS n rs) = tot rs := by
  induction rs generalizing n with
  | nil => rfl
  | cons r rs ih => simp only [mkSS, tot_cons, mkI_len, ih]
theorem mkSS_mem {c : Nat} (n : Int) {rs : List (List Int)} (h : ∀ r ∈ rs, r.length ≤ c) : ∀ r ∈ mkSS n rs, r.length ≤ c := by
  induction rs generalizing n with
  | nil => simp [mkSS]
  | cons r rs ih =>
    intro x hx
    simp only [mkSS, List.mem_cons] at hx
    rcases hx with rfl | hx
    · rw [mkI_len]; exact h r (by simp)
    · exact ih _ (fun y hy => h y (by simp [hy])) x hx
theorem tot_most {c : Nat} {rs : List (List Int)} (h : ∀ r ∈ rs, r.length ≤ c) : tot rs ≤ c * rs.length := by
  induction rs with
  | nil => simp [tot_nil]
  | cons r rs ih =>
    rw [tot_cons, List.length_cons, Nat.mul_add]
    have := h r (by simp)
    have := ih (fun x hx => h x (by simp [hx]))
    omega
theorem st_tot {xs : List AT} {qs hs : List (List Int)} (h1 : xs.length ≤ 12) (h2 : qs.length ≤ 30) (h3 : hs.length ≤ 30) (h4 : ∀ x ∈ xs, x.rs.length ≤ 4) (h5 : ∀ r ∈ qs, r.length ≤ 400) (h6 : ∀ r ∈ hs, r.length ≤ 400) : (1 : Int) + (tA xs : Int) + (tot qs : Int) + (tot hs : Int) ≤ 1048576000 := by
  have a := gtot_most (f := aL) h4
  have b := tot_most h5
  have d := tot_most h6
  rw [tA_eq]
  omega
theorem mkAS_mem {c : Nat} (n : Int) {xs : List AT} (h : ∀ r ∈ xs, r.rs.length ≤ c) : ∀ r ∈ mkAS n xs, r.rs.length ≤ c := by
  unfold mkAS
  induction xs generalizing n with
  | nil => simp [mkG]
  | cons r rs ih =>
    intro x hx
    simp only [mkG, List.mem_cons] at hx
    rcases hx with rfl | hx
    · simp only [mAt, mkI_len]; exact h r (by simp)
    · exact ih _ (fun y hy => h y (by simp [hy])) x hx
end Go.Proofs.Yticgaflgbljhlaa.Ab
