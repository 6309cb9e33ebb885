/- Walks of functions. -/
import Derived.Test.YtdcjlemkegifjaaDoorAbF2
import Derived.Test.YtdcjlemkegifjaaDoorAbF3
import Derived.Test.YtdcjlemkegifjaaDoorAbAutoW
namespace Go.Proofs.YtdcjlemkegifjaaDoor.Ab
open Go
set_option linter.unusedVariables false
set_option linter.unusedSimpArgs false
set_option maxHeartbeats 4000000
theorem ok_lawFormat : Kn.ok Tryd.prog (kof [(6, q_toIntS), (5, q_specFormat), (8, q_eqIntS)]) := kof_cons k_toIntS (kof_cons k_specFormat (kof_cons k_eqIntS ((kof_nil _))))
theorem en_implFormat : Enters Tryd.prog 7 := enters_of Tryd.func7 rfl rfl
theorem lawFormat_aw (rs : List Int) (hc1 : rs.length < 17592186044416) : ACw TabC Tryd.prog 3 [.row false 1 (rs.map iv)] (.bool true) := by
 have e_toIntS := e_toIntS
 have e_specFormat := e_specFormat
 have e_eqIntS := e_eqIntS
 refine ACw.of tab_ok Tryd.func3 rfl (Nat.le_of_ble_eq_true rfl) fun w0 S0 hCw => ?_
 change G _ _ ⟨[(0, .row false 1 (rs.map iv))], [], 24⟩
 apply G.seq
 refine G.rg tab_ok ok_lawFormat (hk := ?_)
 apply G.seq
 apply G.seq
 refine G.rg tab_ok ok_lawFormat (hk := ?_)
 refine G.iff (h1 := fun h1 => ?_) (h2 := fun h1 => ?_)
 ·try simp only [zqz] at h1
  apply G.seq
  refine G.rg tab_ok ok_lawFormat (hk := ?_)
  refine G.fin tab_ok (hr := ?_)
  rfl
 ·try simp only [zqz] at h1
  apply G.skip
  apply G.seq
  refine G.rg tab_ok ok_lawFormat (hk := ?_)
  apply G.seq
  refine G.rg tab_ok ok_lawFormat (hk := ?_)
  apply G.seq
  refine G.rgN 1 tab_ok ok_lawFormat (hk := ?_)
  refine G.cw tab_lasts hCw en_implFormat (implFormat_aw rs hc1) (h := ?_)
  refine G.rgC tab_ok ok_lawFormat (hk := ?_)
  apply G.seq
  apply G.seq
  refine G.rg tab_ok ok_lawFormat (hk := ?_)
  refine G.fg [0, 4, 18] (hk := ?_)
  refine G.iffF (h2 := ?_)
  apply G.skip
  apply G.seq
  apply G.seq
  refine G.rg tab_ok ok_lawFormat (hk := ?_)
  refine G.iffF (h2 := ?_)
  apply G.skip
  apply G.seq
  refine G.rg tab_ok ok_lawFormat (hk := ?_)
  refine G.fin tab_ok (hr := ?_)
  rfl
end Go.Proofs.YtdcjlemkegifjaaDoor.Ab
