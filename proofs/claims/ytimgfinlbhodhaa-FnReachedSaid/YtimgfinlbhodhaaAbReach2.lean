/- Cycles: plain definitions and lemmas. -/
import Derived.Test.YtimgfinlbhodhaaAbReach
namespace Go.Proofs.Ytimgfinlbhodhaa.Ab
open Go
set_option linter.unusedVariables false
set_option linter.unusedSimpArgs false
section
variable {ps : List PG} {ks : List LK}
def cycAt (ps : List PG) (ks : List LK) (k : Nat) : Bool := (mN (k : Int) ks ps.length ps.length).getD k default
def cycO (ps : List PG) (ks : List LK) : Bool := netOk ps ks && !((List.range ps.length).all fun k => !(cycAt ps ks k))
theorem cyc_net (h : netOk ps ks = false) : cycO ps ks = false := by unfold cycO; rw [h]; rfl
theorem cyc_yes (h : netOk ps ks = true) {k : Nat} (hk : k < ps.length) (hc : cycAt ps ks k = true) : cycO ps ks = true := by
  unfold cycO
  rw [h, range_no (p := fun k => !(cycAt ps ks k)) hk (by simp only [hc, Bool.not_true])]
  rfl
theorem cyc_no (hc : ∀ k < ps.length, cycAt ps ks k = false) : cycO ps ks = false := by
  unfold cycO
  rw [all_range.2 fun k hk => by rw [hc k hk]; rfl]
  simp
theorem cyc_has (hn : netOk ps ks = true) {k : Nat} (hk : k < ps.length) : hasI (reachL ps ks k) (k : Int) = cycAt ps ks k := by
  have h1 : hasI (reachL ps ks k) (k : Int) = true ↔ cycAt ps ks k = true := by
    rw [hasI_mem]
    unfold reachL cycAt
    rw [trueU_mem, Int.toNat_natCast]
    exact ⟨fun h => h.2.2, fun h => ⟨by omega, by omega, h⟩⟩
  rw [Bool.eq_iff_iff]
  exact h1
end
end Go.Proofs.Ytimgfinlbhodhaa.Ab
