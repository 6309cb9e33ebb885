/- Walks of functions. -/
import Derived.Test.YtimgfinlbhodhaaAbJoin
import Derived.Test.YtimgfinlbhodhaaAbX1
import Derived.Test.YtimgfinlbhodhaaAbW1
import Derived.Test.YtimgfinlbhodhaaAbAutoE
namespace Go.Proofs.Ytimgfinlbhodhaa.Ab
open Go
set_option linter.unusedVariables false
set_option linter.unusedSimpArgs false
set_option maxHeartbeats 4000000
theorem ok_specJoinNetworks : Kn.ok Try.prog (kof [(72, q_specIsNetwork), (105, q_l3Copy), (106, q_l3Program), (107, q_l3Link)]) := kof_cons k_specIsNetwork (kof_cons k_l3Copy (kof_cons k_l3Program (kof_cons k_l3Link ((kof_nil _)))))
theorem specJoinNetworks_ac (ps : List PG) (ks : List LK) (qs : List PG) (ls : List LK) (hc1 : NW ps) (hc2 : KW ks) (hc3 : ps.length < 3518437208781) (hc4 : ks.length < 2513169434844) (hc5 : NW qs) (hc6 : KW ls) (hc7 : qs.length < 3518437208781) (hc8 : ls.length < 2513169434844) : AC Try.prog 37 [.agg [.row false 3 (ps.map pv), .row false 5 (ks.map kv)], .agg [.row false 3 (qs.map pv), .row false 5 (ls.map kv)]] (.tup [.agg [.row true 3 ((joinO ps ks qs ls).1.map opv), .row true 5 ((joinO ps ks qs ls).2.1.map okv)], .bool (joinO ps ks qs ls).2.2]) := by
  have e_specIsNetwork := e_specIsNetwork
  have e_l3Copy := e_l3Copy
  have e_l3Program := e_l3Program
  have e_l3Link := e_l3Link
  refine AC.of tab_ok Try.func37 rfl (Nat.le_of_ble_eq_true rfl) fun w0 S0 => ?_
  change G _ _ ⟨[(0, .agg [.row false 3 (ps.map pv), .row false 5 (ks.map kv)]), (1, .agg [.row false 3 (qs.map pv), .row false 5 (ls.map kv)])], [], 79⟩
  apply G.seq
  refine G.rg tab_ok ok_specJoinNetworks (hk := ?_)
  apply G.seq
  apply G.seq
  rcases (show netOk ps ks = false ∨ (netOk ps ks = true ∧ netOk qs ls = false) ∨ (netOk ps ks = true ∧ netOk qs ls = true) by cases netOk ps ks <;> cases netOk qs ls <;> simp) with c1 | ⟨c1, c2⟩ | ⟨hnk, hnk2⟩
  · skip
    refine G.rg tab_ok ok_specJoinNetworks (hk := ?_)
    refine G.iffT (h1 := ?_)
    apply G.seq
    refine G.rg tab_ok ok_specJoinNetworks (hk := ?_)
    refine G.focusNil 2 0 0 3 rfl rfl rfl ?_
    simp only [withH]
    refine G.focusNil 2 0 1 5 rfl rfl rfl ?_
    simp only [withH]
    refine G.fin tab_ok (hr := ?_)
    simp only [oneOrTup, join_a c1]
    rfl
  · skip
    refine G.rg tab_ok ok_specJoinNetworks (hk := ?_)
    refine G.iffT (h1 := ?_)
    apply G.seq
    refine G.rg tab_ok ok_specJoinNetworks (hk := ?_)
    refine G.focusNil 2 0 0 3 rfl rfl rfl ?_
    simp only [withH]
    refine G.focusNil 2 0 1 5 rfl rfl rfl ?_
    simp only [withH]
    refine G.fin tab_ok (hr := ?_)
    simp only [oneOrTup, join_b c2]
    rfl
  · skip
    have hnw := netOk_w hnk
    have hp12 := hnw.pl
    have hk30 := hnw.kl
    have hnw2 := netOk_w hnk2
    have hq12 := hnw2.pl
    have hl30 := hnw2.kl
    have hsm := net_small hnk2
    refine G.rg tab_ok ok_specJoinNetworks (hk := ?_)
    refine G.iffF (h2 := ?_)
    apply G.skip
    apply G.seq
    refine G.rg tab_ok ok_specJoinNetworks (hk := ?_)
    apply G.seq
    apply G.seq
    refine G.rg tab_ok ok_specJoinNetworks (hk := ?_)
    apply G.block
    refine G.nm [2, 3, 4, 6, 24, 25, 26] (h := ?_)
    refine G.loopX (fun j : Nat => ⟨[(2, .ptr 0 0 0), (3, .ptr 1 0 0), (4, .ptr 2 0 0), (6, .ptr 3 0 0), (24, .row false 3 (qs.map pv)), (25, .int .i64 qs.length), (26, .int .i64 j)], [some (2, [[.row false 3 (ps.map pv), .row false 5 (ks.map kv)]]), some (2, [[.row false 3 (qs.map pv), .row false 5 (ls.map kv)]]), some (2, [[.nils, .nils]]), some (2, [[.sl 4 0 (jP ps qs j).length, .sl 5 0 ks.length]]), some (3, (jP ps qs j).map opv), some (5, ks.map okv)], 79⟩) (fun j => j ≤ qs.length) (fun j => qs.length - j) (0) (Nat.zero_le _) (by simp [jP_zero]) ?_
    intro j hj J hJ
    have hw : IntKind.i64.wrap ((j : Int) + 1) = (j : Int) + 1 := wrap64 (by omega) (by omega)
    apply G.seq
    refine G.rg tab_ok ok_specJoinNetworks (hk := ?_)
    apply G.seq
    refine G.iff (h1 := fun h4 => ?_) (h2 := fun h4 => ?_)
    · try simp only [zqz] at h4
      apply G.skip
      apply G.seq
      apply G.block
      apply G.seq
      have hjq : j < qs.length := by omega
      have hlr : (qs.getD j default).l.length ≤ 1048576 := by have := hsm.1 j (by omega); omega
      have hPl0 := jP_len (ps := ps) (qs := qs) (j := j) (by omega)
      have hPl1 := jP_len (ps := ps) (qs := qs) (j := j + 1) (by omega)
      have hq1 : (((jP ps qs (j + 1)).length : Nat) : Int) ≤ 4611686018427387904 := by omega
      have hq2 : (jP ps qs (j + 1)).length * 40 ≤ 70368744177664 := by omega
      have htj := jP_snoc (ps := ps) hjq
      have hPt : List.take (jP ps qs j).length ((jP ps qs j).map opv) = (jP ps qs j).map opv := List.take_of_length_le (by simp)
      have hPs : (jP ps qs j).length + 1 = (jP ps qs (j + 1)).length := by rw [jP_len (by omega), jP_len (by omega)]; rfl
      clear hPl0 hPl1
      refine G.rg tab_ok ok_specJoinNetworks (hk := ?_)
      refine G.dr mixed tab_ok ok_specJoinNetworks [0, 1, 2, 3, 4, 5, 6, 7] (hk := ?_)
      first
      | (refine G.lastE 4 2 6 (f := opv) (l := jP ps qs j) (qs.getD j default) rfl rfl rfl (by decide) (by simp) (pureLL_insv _) rfl ?_
         rw [htj])
      | (refine G.lastE 4 2 7 (f := opv) (l := jP ps qs j) (qs.getD j default) rfl rfl rfl (by decide) (by simp) (pureLL_insv _) rfl ?_
         rw [htj])
      | (refine G.lastE 7 2 6 (f := opv) (l := jP ps qs j) (qs.getD j default) rfl rfl rfl (by decide) (by simp) (pureLL_insv _) rfl ?_
         rw [htj])
      | (refine G.lastE 8 2 7 (f := opv) (l := jP ps qs j) (qs.getD j default) rfl rfl rfl (by decide) (by simp) (pureLL_insv _) rfl ?_
         rw [htj])
      | (refine G.lastE 9 2 7 (f := opv) (l := jP ps qs j) (qs.getD j default) rfl rfl rfl (by decide) (by simp) (pureLL_insv _) rfl ?_
         rw [htj])
      apply G.blk
      refine G.rg tab_ok ok_specJoinNetworks (hk := ?_)
      refine G.nm [2, 3, 4, 6, 24, 25, 26] (h := ?_)
      exact G.upto (hJ (j + 1) (by omega) (by omega)) (by simp [hPs])
    · try simp only [zqz] at h4
      refine G.exit rfl ?_
      apply G.seq
      apply G.seq
      refine G.rg tab_ok ok_specJoinNetworks (hk := ?_)
      apply G.block
      obtain rfl : j = qs.length := by omega
      clear hJ hj
      refine G.nm [2, 4, 6, 39, 40, 41] (h := ?_)
      refine G.loopX (fun j : Nat => ⟨[(2, .ptr 0 0 0), (4, .ptr 1 0 0), (6, .ptr 2 0 0), (39, .row false 5 (ls.map kv)), (40, .int .i64 ls.length), (41, .int .i64 j)], [some (2, [[.row false 3 (ps.map pv), .row false 5 (ks.map kv)]]), some (2, [[.nils, .nils]]), some (2, [[.sl 3 0 (jP ps qs qs.length).length, .sl 4 0 (jK (ps.length : Int) ks ls j).length]]), some (3, (jP ps qs qs.length).map opv), some (5, (jK (ps.length : Int) ks ls j).map okv)], 79⟩) (fun j => j ≤ ls.length) (fun j => ls.length - j) (0) (Nat.zero_le _) (by simp [jK_zero]) ?_
      intro j hj J hJ
      have hw : IntKind.i64.wrap ((j : Int) + 1) = (j : Int) + 1 := wrap64 (by omega) (by omega)
      apply G.seq
      refine G.rg tab_ok ok_specJoinNetworks (hk := ?_)
      apply G.seq
      refine G.iff (h1 := fun h5 => ?_) (h2 := fun h5 => ?_)
      · try simp only [zqz] at h5
        apply G.skip
        apply G.seq
        apply G.block
        apply G.seq
        have hjl : j < ls.length := by omega
        have hlo := hnw2.lk j hjl
        have hfb : (ls.getD j default).fr ≥ 0 → (ls.getD j default).fr < 12 := lk_fr hlo hq12
        have htb : (ls.getD j default).to ≥ 0 → (ls.getD j default).to < 12 := lk_to hlo hq12
        clear hlo
        have hsn := fun a b => jK_snoc (d := (ps.length : Int)) (ks := ks) hjl (a := a) (b := b)
        have hx4 := hsm.2 j hjl
        obtain ⟨x, hx⟩ : ∃ x, (ls.getD j default) = x := ⟨_, rfl⟩
        rw [hx] at hfb htb hx4
        simp only [hx] at hsn
        have hxt : x.tk.length ≤ 1048576 := by omega
        have hKl0 := jK_len (d := (ps.length : Int)) (ks := ks) (ls := ls) (j := j) (by omega)
        have hKl1 := jK_len (d := (ps.length : Int)) (ks := ks) (ls := ls) (j := j + 1) (by omega)
        have hq1 : (((jK (ps.length : Int) ks ls (j + 1)).length : Nat) : Int) ≤ 4611686018427387904 := by omega
        have hq2 : (jK (ps.length : Int) ks ls (j + 1)).length * 56 ≤ 70368744177664 := by omega
        have hKt : List.take (jK (ps.length : Int) ks ls j).length ((jK (ps.length : Int) ks ls j).map okv) = (jK (ps.length : Int) ks ls j).map okv := List.take_of_length_le (by simp)
        have hKs : (jK (ps.length : Int) ks ls j).length + 1 = (jK (ps.length : Int) ks ls (j + 1)).length := by rw [jK_len (by omega), jK_len (by omega)]; rfl
        clear hKl0 hKl1
        refine G.rg tab_ok ok_specJoinNetworks (hk := ?_)
        apply G.seq
        refine G.rg tab_ok ok_specJoinNetworks (hk := ?_)
        apply G.seq
        apply G.seq
        refine G.rg tab_ok ok_specJoinNetworks (hk := ?_)
        refine G.fg [2, 4, 6, 11, 39, 40, 41, 49] (hk := ?_)
        refine G.iff (h1 := fun h6 => ?_) (h2 := fun h6 => ?_)
        · try simp only [zqz] at h6
          have hwf : IntKind.i64.wrap (x.fr + (ps.length : Int)) = x.fr + (ps.length : Int) := by have := hfb h6; exact wrap64 (by omega) (by omega)
          refine G.rg tab_ok ok_specJoinNetworks (hk := ?_)
          apply G.seq
          apply G.seq
          refine G.rg tab_ok ok_specJoinNetworks (hk := ?_)
          refine G.fg [2, 4, 6, 11, 39, 40, 41, 59] (hk := ?_)
          refine G.iff (h1 := fun h7 => ?_) (h2 := fun h7 => ?_)
          · try simp only [zqz] at h7
            have hwt : IntKind.i64.wrap (x.to + (ps.length : Int)) = x.to + (ps.length : Int) := by have := htb h7; exact wrap64 (by omega) (by omega)
            refine G.rg tab_ok ok_specJoinNetworks (hk := ?_)
            refine G.rg tab_ok ok_specJoinNetworks (hk := ?_)
            first
            | (refine G.lastE 9 4 6 (f := okv) (l := (jK (ps.length : Int) ks ls j)) ⟨x.fr + (ps.length : Int), x.ou, x.to + (ps.length : Int), x.ip, x.tk⟩ rfl rfl rfl (by decide) (by simp) (pureLL_iv _) rfl ?_
               rw [hsn _ _ (if_pos (by omega)).symm (if_pos (by omega)).symm])
            | (refine G.lastE 9 4 6 (f := okv) (l := (jK (ps.length : Int) ks ls j)) ⟨x.fr + (ps.length : Int), x.ou, x.to, x.ip, x.tk⟩ rfl rfl rfl (by decide) (by simp) (pureLL_iv _) rfl ?_
               rw [hsn _ _ (if_pos (by omega)).symm (if_neg (by omega)).symm])
            | (refine G.lastE 9 4 6 (f := okv) (l := (jK (ps.length : Int) ks ls j)) ⟨x.fr, x.ou, x.to + (ps.length : Int), x.ip, x.tk⟩ rfl rfl rfl (by decide) (by simp) (pureLL_iv _) rfl ?_
               rw [hsn _ _ (if_neg (by omega)).symm (if_pos (by omega)).symm])
            | (refine G.lastE 9 4 6 (f := okv) (l := (jK (ps.length : Int) ks ls j)) ⟨x.fr, x.ou, x.to, x.ip, x.tk⟩ rfl rfl rfl (by decide) (by simp) (pureLL_iv _) rfl ?_
               rw [hsn _ _ (if_neg (by omega)).symm (if_neg (by omega)).symm])
            apply G.blk
            refine G.rg tab_ok ok_specJoinNetworks (hk := ?_)
            refine G.nm [2, 4, 6, 39, 40, 41] (h := ?_)
            exact G.upto (hJ (j + 1) (by omega) (by omega)) (by simp [hKs])
          · try simp only [zqz] at h7
            apply G.skip
            refine G.rg tab_ok ok_specJoinNetworks (hk := ?_)
            first
            | (refine G.lastE 9 4 6 (f := okv) (l := (jK (ps.length : Int) ks ls j)) ⟨x.fr + (ps.length : Int), x.ou, x.to + (ps.length : Int), x.ip, x.tk⟩ rfl rfl rfl (by decide) (by simp) (pureLL_iv _) rfl ?_
               rw [hsn _ _ (if_pos (by omega)).symm (if_pos (by omega)).symm])
            | (refine G.lastE 9 4 6 (f := okv) (l := (jK (ps.length : Int) ks ls j)) ⟨x.fr + (ps.length : Int), x.ou, x.to, x.ip, x.tk⟩ rfl rfl rfl (by decide) (by simp) (pureLL_iv _) rfl ?_
               rw [hsn _ _ (if_pos (by omega)).symm (if_neg (by omega)).symm])
            | (refine G.lastE 9 4 6 (f := okv) (l := (jK (ps.length : Int) ks ls j)) ⟨x.fr, x.ou, x.to + (ps.length : Int), x.ip, x.tk⟩ rfl rfl rfl (by decide) (by simp) (pureLL_iv _) rfl ?_
               rw [hsn _ _ (if_neg (by omega)).symm (if_pos (by omega)).symm])
            | (refine G.lastE 9 4 6 (f := okv) (l := (jK (ps.length : Int) ks ls j)) ⟨x.fr, x.ou, x.to, x.ip, x.tk⟩ rfl rfl rfl (by decide) (by simp) (pureLL_iv _) rfl ?_
               rw [hsn _ _ (if_neg (by omega)).symm (if_neg (by omega)).symm])
            apply G.blk
            refine G.rg tab_ok ok_specJoinNetworks (hk := ?_)
            refine G.nm [2, 4, 6, 39, 40, 41] (h := ?_)
            exact G.upto (hJ (j + 1) (by omega) (by omega)) (by simp [hKs])
        · try simp only [zqz] at h6
          apply G.skip
          apply G.seq
          apply G.seq
          refine G.rg tab_ok ok_specJoinNetworks (hk := ?_)
          refine G.iff (h1 := fun h8 => ?_) (h2 := fun h8 => ?_)
          · try simp only [zqz] at h8
            have hwt : IntKind.i64.wrap (x.to + (ps.length : Int)) = x.to + (ps.length : Int) := by have := htb h8; exact wrap64 (by omega) (by omega)
            refine G.rg tab_ok ok_specJoinNetworks (hk := ?_)
            refine G.rg tab_ok ok_specJoinNetworks (hk := ?_)
            first
            | (refine G.lastE 9 4 6 (f := okv) (l := (jK (ps.length : Int) ks ls j)) ⟨x.fr + (ps.length : Int), x.ou, x.to + (ps.length : Int), x.ip, x.tk⟩ rfl rfl rfl (by decide) (by simp) (pureLL_iv _) rfl ?_
               rw [hsn _ _ (if_pos (by omega)).symm (if_pos (by omega)).symm])
            | (refine G.lastE 9 4 6 (f := okv) (l := (jK (ps.length : Int) ks ls j)) ⟨x.fr + (ps.length : Int), x.ou, x.to, x.ip, x.tk⟩ rfl rfl rfl (by decide) (by simp) (pureLL_iv _) rfl ?_
               rw [hsn _ _ (if_pos (by omega)).symm (if_neg (by omega)).symm])
            | (refine G.lastE 9 4 6 (f := okv) (l := (jK (ps.length : Int) ks ls j)) ⟨x.fr, x.ou, x.to + (ps.length : Int), x.ip, x.tk⟩ rfl rfl rfl (by decide) (by simp) (pureLL_iv _) rfl ?_
               rw [hsn _ _ (if_neg (by omega)).symm (if_pos (by omega)).symm])
            | (refine G.lastE 9 4 6 (f := okv) (l := (jK (ps.length : Int) ks ls j)) ⟨x.fr, x.ou, x.to, x.ip, x.tk⟩ rfl rfl rfl (by decide) (by simp) (pureLL_iv _) rfl ?_
               rw [hsn _ _ (if_neg (by omega)).symm (if_neg (by omega)).symm])
            apply G.blk
            refine G.rg tab_ok ok_specJoinNetworks (hk := ?_)
            refine G.nm [2, 4, 6, 39, 40, 41] (h := ?_)
            exact G.upto (hJ (j + 1) (by omega) (by omega)) (by simp [hKs])
          · try simp only [zqz] at h8
            apply G.skip
            refine G.rg tab_ok ok_specJoinNetworks (hk := ?_)
            first
            | (refine G.lastE 9 4 6 (f := okv) (l := (jK (ps.length : Int) ks ls j)) ⟨x.fr + (ps.length : Int), x.ou, x.to + (ps.length : Int), x.ip, x.tk⟩ rfl rfl rfl (by decide) (by simp) (pureLL_iv _) rfl ?_
               rw [hsn _ _ (if_pos (by omega)).symm (if_pos (by omega)).symm])
            | (refine G.lastE 9 4 6 (f := okv) (l := (jK (ps.length : Int) ks ls j)) ⟨x.fr + (ps.length : Int), x.ou, x.to, x.ip, x.tk⟩ rfl rfl rfl (by decide) (by simp) (pureLL_iv _) rfl ?_
               rw [hsn _ _ (if_pos (by omega)).symm (if_neg (by omega)).symm])
            | (refine G.lastE 9 4 6 (f := okv) (l := (jK (ps.length : Int) ks ls j)) ⟨x.fr, x.ou, x.to + (ps.length : Int), x.ip, x.tk⟩ rfl rfl rfl (by decide) (by simp) (pureLL_iv _) rfl ?_
               rw [hsn _ _ (if_neg (by omega)).symm (if_pos (by omega)).symm])
            | (refine G.lastE 9 4 6 (f := okv) (l := (jK (ps.length : Int) ks ls j)) ⟨x.fr, x.ou, x.to, x.ip, x.tk⟩ rfl rfl rfl (by decide) (by simp) (pureLL_iv _) rfl ?_
               rw [hsn _ _ (if_neg (by omega)).symm (if_neg (by omega)).symm])
            apply G.blk
            refine G.rg tab_ok ok_specJoinNetworks (hk := ?_)
            refine G.nm [2, 4, 6, 39, 40, 41] (h := ?_)
            exact G.upto (hJ (j + 1) (by omega) (by omega)) (by simp [hKs])
      · try simp only [zqz] at h5
        refine G.exit rfl ?_
        apply G.seq
        apply G.seq
        obtain rfl : j = ls.length := by omega
        have hPe := jP_end ps qs
        have hKe := jK_end (ps.length : Int) ks ls
        rw [hPe, hKe]
        have hjy := join_yes hnk hnk2
        have hNW : NW (ps ++ qs) := app_NW (net_NW hnk) (net_NW hnk2)
        have hKW : KW (joinK (ps.length : Int) ks ls) := join_KW (net_KW hnk) (net_KW hnk2)
        have hPb : (ps ++ qs).length < 3518437208781 := by rw [List.length_append]; omega
        have hKb : (joinK (ps.length : Int) ks ls).length < 2513169434844 := by rw [joinK_len]; omega
        generalize ps ++ qs = P at *
        generalize joinK (ps.length : Int) ks ls = L at *
        clear hPe hKe
        refine G.rg tab_ok ok_specJoinNetworks (hk := ?_)
        refine G.iff (h1 := fun h9 => ?_) (h2 := fun h9 => ?_)
        · try simp only [zqz] at h9
          apply G.seq
          refine G.rg tab_ok ok_specJoinNetworks (hk := ?_)
          refine G.focusNil 1 0 0 3 rfl rfl rfl ?_
          simp only [withH]
          refine G.focusNil 1 0 1 5 rfl rfl rfl ?_
          simp only [withH]
          refine G.fin tab_ok (hr := ?_)
          simp only [oneOrTup, hjy, chk, h9]
          rfl
        · try simp only [zqz] at h9
          apply G.skip
          apply G.seq
          refine G.rg tab_ok ok_specJoinNetworks (hk := ?_)
          refine G.fin tab_ok (hr := ?_)
          simp only [oneOrTup, hjy, chk, h9, if_true]
def r_specJoinNetworks (xs0 : List A) (rr : A) : Prop := ∃ (ps : List PG) (ks : List LK) (qs : List PG) (ls : List LK), (NW ps) ∧ (KW ks) ∧ (ps.length < 3518437208781) ∧ (ks.length < 2513169434844) ∧ (NW qs) ∧ (KW ls) ∧ (qs.length < 3518437208781) ∧ (ls.length < 2513169434844) ∧ xs0 = [.agg [.row false 3 (ps.map pv), .row false 5 (ks.map kv)], .agg [.row false 3 (qs.map pv), .row false 5 (ls.map kv)]] ∧ rr = .tup [.agg [.row true 3 ((joinO ps ks qs ls).1.map opv), .row true 5 ((joinO ps ks qs ls).2.1.map okv)], .bool (joinO ps ks qs ls).2.2]
noncomputable def q_specJoinNetworks : List A → Option A := kgr r_specJoinNetworks
theorem k_specJoinNetworks : KOk Try.prog (37, q_specJoinNetworks) := kgr_ok (enters_of Try.func37 rfl rfl) (by rintro xs0 rr ⟨ps, ks, qs, ls, hc1, hc2, hc3, hc4, hc5, hc6, hc7, hc8, rfl, rfl⟩; exact specJoinNetworks_ac ps ks qs ls hc1 hc2 hc3 hc4 hc5 hc6 hc7 hc8)
theorem e_specJoinNetworks : ∀ (ps : List PG) (ks : List LK) (qs : List PG) (ls : List LK), (NW ps) → (KW ks) → (ps.length < 3518437208781) → (ks.length < 2513169434844) → (NW qs) → (KW ls) → (qs.length < 3518437208781) → (ls.length < 2513169434844) → q_specJoinNetworks [.agg [.row false 3 (ps.map pv), .row false 5 (ks.map kv)], .agg [.row false 3 (qs.map pv), .row false 5 (ls.map kv)]] = some (.tup [.agg [.row true 3 ((joinO ps ks qs ls).1.map opv), .row true 5 ((joinO ps ks qs ls).2.1.map okv)], .bool (joinO ps ks qs ls).2.2]) := by
 intro ps ks qs ls hc1 hc2 hc3 hc4 hc5 hc6 hc7 hc8
 refine kgr_eq (fun xs0 rr r2 h h2 => ?_) ⟨ps, ks, qs, ls, hc1, hc2, hc3, hc4, hc5, hc6, hc7, hc8, rfl, rfl⟩
 obtain ⟨ps1, ks1, qs1, ls1, _, _, _, _, _, _, _, _, e1, rfl⟩ := h; obtain ⟨ps2, ks2, qs2, ls2, _, _, _, _, _, _, _, _, e2, rfl⟩ := h2
 rw [e1] at e2
 simp only [List.cons.injEq, A.int.injEq, A.agg.injEq, A.row.injEq, pv_inj, kv_inj, iv_inj, true_and, and_true] at e2
 obtain ⟨⟨e3, e4⟩, e5, e6⟩ := e2
 subst e3 e4 e5 e6
 rfl
end Go.Proofs.Ytimgfinlbhodhaa.Ab
