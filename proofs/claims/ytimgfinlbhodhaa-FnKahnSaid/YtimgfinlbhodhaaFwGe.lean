/- Walks of functions of the program, and the plain definitions. -/
import Derived.Test.YtimgfinlbhodhaaFwGd
namespace Go.Proofs.Ytimgfinlbhodhaa.Ab
open Go
set_option linter.unusedVariables false
set_option linter.unusedSimpArgs false
set_option maxHeartbeats 4000000
theorem ok_implIsNetwork : Kn.ok Try.prog (kof [(94, q_implIsProgram), (97, q_implIsStream)]) := kof_cons k_implIsProgram (kof_cons k_implIsStream ((kof_nil _)))
theorem implIsNetwork_ac (ps : List PG) (ks : List LK) (hc1 : NW ps) (hc2 : KW ks) (hc3 : ps.length < 3518437208781) (hc4 : ks.length < 2513169434844) : AC Try.prog 70 [.agg [.row false 3 (ps.map pv), .row false 5 (ks.map kv)]] (.bool (netOk ps ks)) := by
 have e_implIsProgram := e_implIsProgram
 have e_implIsStream := e_implIsStream
 have hft : (false == true) = false := rfl
 have htf : (true == false) = false := rfl
 refine AC.of tab_ok Try.func70 rfl (Nat.le_of_ble_eq_true rfl) fun w0 S0 => ?_
 change G _ _ ⟨[(0, .agg [.row false 3 (ps.map pv), .row false 5 (ks.map kv)])], [], 189⟩
 apply G.seq
 refine G.rg tab_ok ok_implIsNetwork (hk := ?_)
 apply G.seq
 apply G.seq
 refine G.rg tab_ok ok_implIsNetwork (hk := ?_)
 refine G.fg [1, 22, 49, 50, 51, 52, 53, 54, 55, 56, 57, 58, 59, 60, 61, 62, 63, 64, 65, 66, 67, 68, 69, 70, 71, 72, 73, 74, 75, 76, 77, 78, 79, 80, 81, 82, 83, 84, 85, 86, 87, 88, 89, 90, 91, 97, 98, 99, 100, 101, 102, 103, 104, 105, 106, 107, 108, 109, 110, 111, 112, 113, 114, 115, 116, 117, 118, 119, 120, 121, 122, 123] (hk := ?_)
 refine G.iff (h1 := fun h1 => ?_) (h2 := fun h1 => ?_)
 ·try simp only [zqz] at h1
  apply G.seq
  refine G.rg tab_ok ok_implIsNetwork (hk := ?_)
  refine G.fin tab_ok (hr := ?_)
  simp only [oneOrTup]
  congr 1
  rw [← netI_eq]
  exact (netI_small h1).symm
 ·try simp only [zqz] at h1
  apply G.skip
  apply G.seq
  refine G.rg tab_ok ok_implIsNetwork (hk := ?_)
  apply G.seq
  apply G.seq
  refine G.rg tab_ok ok_implIsNetwork (hk := ?_)
  apply G.block
  have hs12 : netSmall ps ks = true := small_yes (by omega)
  refine G.cn [1, 3, 24, 25, 26] [0] (h := ?_)
  refine G.loopX (fun j : Nat => ⟨[(1, .ptr 0 0 0), (3, .int .i64 (gtot portN (ps.take j) : Nat)), (24, .row false 3 (ps.map pv)), (25, .int .i64 ps.length), (26, .int .i64 j)], [some (2, [[.row false 3 (ps.map pv), .row false 5 (ks.map kv)]])], 189⟩) (fun j => j ≤ ps.length ∧ (∀ k < j, pgOk (ps.getD k default) = true) ∧ gtot portN (ps.take j) ≤ 6 * j) (fun j => ps.length - j) (0) (⟨Nat.zero_le _, by omega, by simp [gtot_nil]⟩) (by simp [gtot_nil]) ?_
  intro j hj J hJ
  obtain ⟨hj, hall, hpt⟩ := hj
  have hw : IntKind.i64.wrap ((j : Int) + 1) = (j : Int) + 1 := wrap64 (by omega) (by omega)
  apply G.seq
  refine G.rg tab_ok ok_implIsNetwork (hk := ?_)
  apply G.seq
  refine G.iff (h1 := fun h2 => ?_) (h2 := fun h2 => ?_)
  ·try simp only [zqz] at h2
   apply G.skip
   apply G.seq
   apply G.block
   apply G.seq
   refine G.rg tab_ok ok_implIsNetwork (hk := ?_)
   apply G.seq
   apply G.seq
   have hlr : (ps.getD j default).l.length < 4398046511104 := hc1 _ (getD_mem0 h2)
   refine G.rg tab_ok ok_implIsNetwork (hk := ?_)
   refine G.iff (h1 := fun h3 => ?_) (h2 := fun h3 => ?_)
   ·try simp only [zqz] at h3
    apply G.seq
    refine G.rg tab_ok ok_implIsNetwork (hk := ?_)
    refine G.fin tab_ok (hr := ?_)
    simp only [oneOrTup]
    congr 1
    rw [← netI_eq]
    exact (netI_pg h2 h3).symm
   ·try simp only [zqz] at h3
    apply G.skip
    obtain ⟨⟨bi0, bi3⟩, ⟨bo0, bo3⟩, _⟩ := pg_one (p := ps.getD j default) h3
    have hw1 : IntKind.i64.wrap ((ps.getD j default).i + (ps.getD j default).o) = (ps.getD j default).i + (ps.getD j default).o := wrap64 (by omega) (by omega)
    have hw2 : IntKind.i64.wrap ((gtot portN (ps.take j) : Int) + ((ps.getD j default).i + (ps.getD j default).o)) = (gtot portN (ps.take j) : Int) + ((ps.getD j default).i + (ps.getD j default).o) := wrap64 (by omega) (by omega)
    refine G.rg tab_ok ok_implIsNetwork (hk := ?_)
    apply G.blk
    refine G.rg tab_ok ok_implIsNetwork (hk := ?_)
    refine G.cn [1, 3, 24, 25, 26] [0] (h := ?_)
    have hps := gtot_succ (f := portN) h2
    have hpn : portN (ps.getD j default) = (ps.getD j default).i.toNat + (ps.getD j default).o.toNat := rfl
    rw [hpn] at hps
    have hpv : (gtot portN (ps.take j) : Int) + ((ps.getD j default).i + (ps.getD j default).o) = ((gtot portN (ps.take (j + 1)) : Nat) : Int) := by omega
    exact G.upto (hJ (j + 1) ⟨by omega, gupto (p := pgOk) hall h3, by omega⟩ (by omega)) (by rw [hpv]; simp)
  ·try simp only [zqz] at h2
   refine G.exit rfl ?_
   apply G.seq
   refine G.rg tab_ok ok_implIsNetwork (hk := ?_)
   apply G.seq
   apply G.seq
   refine G.rg tab_ok ok_implIsNetwork (hk := ?_)
   apply G.block
   have hpa : ps.all pgOk = true := gall (p := pgOk) (fun k hk => hall k (by omega))
   obtain rfl : j = ps.length := by omega
   rw [List.take_length] at hpt ⊢
   clear hJ hall hj
   refine G.cn [1, 3, 6, 42, 43, 44] [0] (h := ?_)
   refine G.loopX (fun j : Nat => ⟨[(1, .ptr 0 0 0), (3, .int .i64 (gtot portN ps : Nat)), (6, .int .i64 (gtot endN (ks.take j) : Nat)), (42, .row false 5 (ks.map kv)), (43, .int .i64 ks.length), (44, .int .i64 j)], [some (2, [[.row false 3 (ps.map pv), .row false 5 (ks.map kv)]])], 189⟩) (fun j => j ≤ ks.length ∧ ∀ k < j, goodAt ps ks k = true) (fun j => ks.length - j) (0) (⟨Nat.zero_le _, by omega⟩) (by simp [gtot_nil]) ?_
   intro j hj J2 hJ2
   obtain ⟨hj, hall⟩ := hj
   obtain ⟨x, hx⟩ : ∃ x, ks.getD j default = x := ⟨_, rfl⟩
   have hen := endsN_le ks j hj
   have hw : IntKind.i64.wrap ((j : Int) + 1) = (j : Int) + 1 := wrap64 (by omega) (by omega)
   apply G.seq
   refine G.rg tab_ok ok_implIsNetwork (hk := ?_)
   apply G.seq
   refine G.iff (h1 := fun h4 => ?_) (h2 := fun h4 => ?_)
   ·try simp only [zqz] at h4
    apply G.skip
    apply G.seq
    apply G.block
    apply G.seq
    have hjk : j < ks.length := by omega
    have hlr : x.tk.length < 17592186044416 := by rw [← hx]; exact hc2 _ (getD_mem0 hjk)
    refine G.rg tab_ok ok_implIsNetwork (hk := ?_)
    apply G.seq
    apply G.viaX (st' := ⟨[(1, .ptr 0 0 0), (3, .int .i64 (gtot portN ps : Nat)), (6, .int .i64 (gtot endN (ks.take j) : Nat)), (7, .int .i64 j), (8, .ptr 1 0 0), (9, .bool (x.fr == -1 && x.ou == 0)), (10, .bool (x.to == -1 && x.ip == 0)), (42, .row false 5 (ks.map kv)), (43, .int .i64 ks.length), (44, .int .i64 j)], [some (2, [[.row false 3 (ps.map pv), .row false 5 (ks.map kv)]]), some (5, [[.int .i64 x.fr, .int .i64 x.ou, .int .i64 x.to, .int .i64 x.ip, .row false 1 (x.tk.map iv)]])], 189⟩)
    ·intro hvia15
     rcases (show (x.fr = -1 ∧ x.to = -1) ∨ (x.fr = -1 ∧ ¬ x.to = -1) ∨ (¬ x.fr = -1 ∧ x.to = -1) ∨ (¬ x.fr = -1 ∧ ¬ x.to = -1) by omega) with ⟨c1, c2⟩ | ⟨c1, c2⟩ | ⟨c1, c2⟩ | ⟨c1, c2⟩
     ·skip
      have d1 : (x.fr == -1) = true := by rw [beq_iff_eq]; exact c1
      have d2 : (x.to == -1) = true := by rw [beq_iff_eq]; exact c2
      clear c1 c2
      refine G.dr mixed tab_ok ok_implIsNetwork [0, 1, 2, 3, 4, 5, 6, 7, 8, 9, 10, 11, 12, 13, 14, 15, 16, 17] (hk := ?_)
      refine G.fg [1, 3, 6, 7, 8, 9, 10, 42, 43, 44] (hk := ?_)
      refine G.meet hvia15 ?_
      simp [d1, d2]
     ·skip
      have d1 : (x.fr == -1) = true := by rw [beq_iff_eq]; exact c1
      have d2 : (x.to == -1) = false := by rw [beq_eq_false_iff_ne]; exact c2
      clear c1 c2
      refine G.dr mixed tab_ok ok_implIsNetwork [0, 1, 2, 3, 4, 5, 6, 7, 8, 9, 10, 11, 12, 13, 14, 15, 16, 17] (hk := ?_)
      refine G.fg [1, 3, 6, 7, 8, 9, 10, 42, 43, 44] (hk := ?_)
      refine G.meet hvia15 ?_
      simp [d1, d2]
     ·skip
      have d1 : (x.fr == -1) = false := by rw [beq_eq_false_iff_ne]; exact c1
      have d2 : (x.to == -1) = true := by rw [beq_iff_eq]; exact c2
      clear c1 c2
      refine G.dr mixed tab_ok ok_implIsNetwork [0, 1, 2, 3, 4, 5, 6, 7, 8, 9, 10, 11, 12, 13, 14, 15, 16, 17] (hk := ?_)
      refine G.fg [1, 3, 6, 7, 8, 9, 10, 42, 43, 44] (hk := ?_)
      refine G.meet hvia15 ?_
      simp [d1, d2]
     ·skip
      have d1 : (x.fr == -1) = false := by rw [beq_eq_false_iff_ne]; exact c1
      have d2 : (x.to == -1) = false := by rw [beq_eq_false_iff_ne]; exact c2
      clear c1 c2
      refine G.dr mixed tab_ok ok_implIsNetwork [0, 1, 2, 3, 4, 5, 6, 7, 8, 9, 10, 11, 12, 13, 14, 15, 16, 17] (hk := ?_)
      refine G.fg [1, 3, 6, 7, 8, 9, 10, 42, 43, 44] (hk := ?_)
      refine G.meet hvia15 ?_
      simp [d1, d2]
    ·skip
     apply G.seq
     apply G.seq
     apply G.viaP (Q := frIn ps x ∨ frOut x) (st' := ⟨[(1, .ptr 0 0 0), (3, .int .i64 (gtot portN ps : Nat)), (6, .int .i64 ((gtot endN (ks.take j) : Int) + (if x.fr ≥ 0 then 1 else 0))), (7, .int .i64 j), (8, .ptr 1 0 0), (9, .bool (x.fr == -1 && x.ou == 0)), (10, .bool (x.to == -1 && x.ip == 0)), (42, .row false 5 (ks.map kv)), (43, .int .i64 ks.length), (44, .int .i64 j)], [some (2, [[.row false 3 (ps.map pv), .row false 5 (ks.map kv)]]), some (5, [[.int .i64 x.fr, .int .i64 x.ou, .int .i64 x.to, .int .i64 x.ip, .row false 1 (x.tk.map iv)]])], 189⟩)
     ·intro hvia16
      rcases fr_cases ps x with c1 | ⟨c1, c2⟩ | ⟨c1, c2, c3⟩ | ⟨c1, c2, c3, c4⟩ | ⟨c1, c2, c3, c4⟩
      ·skip
       have c0 : ¬ x.fr ≥ 0 := by omega
       refine G.dr mixed tab_ok ok_implIsNetwork [0, 1, 2, 3, 4, 5, 6, 7, 8, 9, 10, 11, 12, 13, 14, 15, 16, 17, 18, 19, 20, 21, 22, 23, 24, 25, 26, 27] (hk := ?_)
       refine G.iffF (h2 := ?_)
       apply G.seq
       refine G.rg tab_ok ok_implIsNetwork (hk := ?_)
       refine G.fg [1, 3, 6, 7, 8, 9, 10, 42, 43, 44, 96] (hk := ?_)
       refine G.iff (h1 := fun h6 => ?_) (h2 := fun h6 => ?_)
       ·try simp only [zqz] at h6
        apply G.seq
        refine G.rg tab_ok ok_implIsNetwork (hk := ?_)
        refine G.fin tab_ok (hr := ?_)
        simp only [oneOrTup]
        congr 1
        symm
        rw [← netI_eq]
        exact netI_lk hjk (good_ends (by rw [hx]; exact ends_noF (fun h => c0 h.1) (fun h => by have h1 := h.1; have h2 := h.2; omega)))
       ·try simp only [zqz] at h6
        apply G.skip
        refine G.fg [1, 3, 6, 7, 8, 9, 10, 42, 43, 44] (hk := ?_)
        refine G.meet (hvia16 (.inr h6)) ?_
        rw [if_neg c0, Int.add_zero]
      ·skip
       have c0 : x.fr ≥ 0 := c1
       have cq : (x.fr == -1) = false := by rw [beq_eq_false_iff_ne]; omega
       refine G.dr mixed tab_ok ok_implIsNetwork [0, 1, 2, 3, 4, 5, 6, 7, 8, 9, 10, 11, 12, 13, 14, 15, 16, 17, 18, 19, 20, 21, 22, 23, 24, 25, 26, 27] (hk := ?_)
       refine G.iffF (h2 := ?_)
       apply G.seq
       refine G.rg tab_ok ok_implIsNetwork (hk := ?_)
       refine G.iffT (h1 := ?_)
       apply G.seq
       refine G.rg tab_ok ok_implIsNetwork (hk := ?_)
       refine G.fin tab_ok (hr := ?_)
       simp only [oneOrTup]
       congr 1
       symm
       rw [← netI_eq]
       exact netI_lk hjk (good_ends (by rw [hx]; exact ends_noF (fun h => c2 h.2.1) (fun h => by have := h.1; omega)))
      ·skip
       have c0 : x.fr ≥ 0 := c1
       have c03 : ¬ x.ou ≥ 0 := c3
       have cq : (x.fr == -1) = false := by rw [beq_eq_false_iff_ne]; omega
       refine G.dr mixed tab_ok ok_implIsNetwork [0, 1, 2, 3, 4, 5, 6, 7, 8, 9, 10, 11, 12, 13, 14, 15, 16, 17, 18, 19, 20, 21, 22, 23, 24, 25, 26, 27] (hk := ?_)
       refine G.iffF (h2 := ?_)
       apply G.seq
       refine G.rg tab_ok ok_implIsNetwork (hk := ?_)
       refine G.iffT (h1 := ?_)
       apply G.seq
       refine G.rg tab_ok ok_implIsNetwork (hk := ?_)
       refine G.fin tab_ok (hr := ?_)
       simp only [oneOrTup]
       congr 1
       symm
       rw [← netI_eq]
       exact netI_lk hjk (good_ends (by rw [hx]; exact ends_noF (fun h => c3 h.2.2.1) (fun h => by have := h.1; omega)))
      ·skip
       have c0 : x.fr ≥ 0 := c1
       have c03 : x.ou ≥ 0 := c3
       have c5 : x.fr.toNat < ps.length := by omega
       have cq : (x.fr == -1) = false := by rw [beq_eq_false_iff_ne]; omega
       refine G.dr mixed tab_ok ok_implIsNetwork [0, 1, 2, 3, 4, 5, 6, 7, 8, 9, 10, 11, 12, 13, 14, 15, 16, 17, 18, 19, 20, 21, 22, 23, 24, 25, 26, 27] (hk := ?_)
       refine G.iffF (h2 := ?_)
       apply G.seq
       refine G.rg tab_ok ok_implIsNetwork (hk := ?_)
       refine G.iffT (h1 := ?_)
       apply G.seq
       refine G.rg tab_ok ok_implIsNetwork (hk := ?_)
       refine G.fin tab_ok (hr := ?_)
       simp only [oneOrTup]
       congr 1
       symm
       rw [← netI_eq]
       exact netI_lk hjk (good_ends (by rw [hx]; exact ends_noF (fun h => c4 h.2.2.2) (fun h => by have := h.1; omega)))
      ·skip
       have c0 : x.fr ≥ 0 := c1
       have c03 : x.ou ≥ 0 := c3
       have c5 : x.fr.toNat < ps.length := by omega
       have hw6 : IntKind.i64.wrap ((gtot endN (ks.take j) : Int) + 1) = (gtot endN (ks.take j) : Int) + 1 := wrap64 (by omega) (by omega)
       refine G.dr mixed tab_ok ok_implIsNetwork [0, 1, 2, 3, 4, 5, 6, 7, 8, 9, 10, 11, 12, 13, 14, 15, 16, 17, 18, 19, 20, 21, 22, 23, 24, 25, 26, 27] (hk := ?_)
       refine G.iffT (h1 := ?_)
       refine G.rg tab_ok ok_implIsNetwork (hk := ?_)
       refine G.fg [1, 3, 6, 7, 8, 9, 10, 42, 43, 44] (hk := ?_)
       refine G.meet (hvia16 (.inl ⟨c1, c2, c3, c4⟩)) ?_
       simp [c0]
     ·intro hQ1
      apply G.seq
      apply G.seq
      apply G.viaP (Q := toIn ps x ∨ toOut x) (st' := ⟨[(1, .ptr 0 0 0), (3, .int .i64 (gtot portN ps : Nat)), (6, .int .i64 ((gtot endN (ks.take j) : Int) + (if x.fr ≥ 0 then 1 else 0) + (if x.to ≥ 0 then 1 else 0))), (7, .int .i64 j), (8, .ptr 1 0 0), (9, .bool (x.fr == -1 && x.ou == 0)), (10, .bool (x.to == -1 && x.ip == 0)), (42, .row false 5 (ks.map kv)), (43, .int .i64 ks.length), (44, .int .i64 j)], [some (2, [[.row false 3 (ps.map pv), .row false 5 (ks.map kv)]]), some (5, [[.int .i64 x.fr, .int .i64 x.ou, .int .i64 x.to, .int .i64 x.ip, .row false 1 (x.tk.map iv)]])], 189⟩)
      ·intro hvia20
       rcases to_cases ps x with c1 | ⟨c1, c2⟩ | ⟨c1, c2, c3⟩ | ⟨c1, c2, c3, c4⟩ | ⟨c1, c2, c3, c4⟩
       ·skip
        have c0 : ¬ x.to ≥ 0 := by omega
        refine G.dr mixed tab_ok ok_implIsNetwork [0, 1, 2, 3, 4, 5, 6, 7, 8, 9, 10, 11, 12, 13, 14, 15, 16, 17, 18, 19, 20, 21, 22, 23, 24, 25, 26, 27] (hk := ?_)
        refine G.iffF (h2 := ?_)
        apply G.seq
        refine G.rg tab_ok ok_implIsNetwork (hk := ?_)
        refine G.fg [1, 3, 6, 7, 8, 9, 10, 42, 43, 44, 128] (hk := ?_)
        refine G.iff (h1 := fun h15 => ?_) (h2 := fun h15 => ?_)
        ·try simp only [zqz] at h15
         apply G.seq
         refine G.rg tab_ok ok_implIsNetwork (hk := ?_)
         refine G.fin tab_ok (hr := ?_)
         simp only [oneOrTup]
         congr 1
         symm
         rw [← netI_eq]
         exact netI_lk hjk (good_ends (by rw [hx]; exact ends_noT (fun h => c0 h.1) (fun h => by have h1 := h.1; have h2 := h.2; omega)))
        ·try simp only [zqz] at h15
         apply G.skip
         refine G.fg [1, 3, 6, 7, 8, 9, 10, 42, 43, 44] (hk := ?_)
         refine G.meet (hvia20 (.inr h15)) ?_
         rw [if_neg c0, Int.add_zero]
       ·skip
        have c0 : x.to ≥ 0 := c1
        have cq : (x.to == -1) = false := by rw [beq_eq_false_iff_ne]; omega
        refine G.dr mixed tab_ok ok_implIsNetwork [0, 1, 2, 3, 4, 5, 6, 7, 8, 9, 10, 11, 12, 13, 14, 15, 16, 17, 18, 19, 20, 21, 22, 23, 24, 25, 26, 27] (hk := ?_)
        refine G.iffF (h2 := ?_)
        apply G.seq
        refine G.rg tab_ok ok_implIsNetwork (hk := ?_)
        refine G.iffT (h1 := ?_)
        apply G.seq
        refine G.rg tab_ok ok_implIsNetwork (hk := ?_)
        refine G.fin tab_ok (hr := ?_)
        simp only [oneOrTup]
        congr 1
        symm
        rw [← netI_eq]
        exact netI_lk hjk (good_ends (by rw [hx]; exact ends_noT (fun h => c2 h.2.1) (fun h => by have := h.1; omega)))
       ·skip
        have c0 : x.to ≥ 0 := c1
        have c03 : ¬ x.ip ≥ 0 := c3
        have cq : (x.to == -1) = false := by rw [beq_eq_false_iff_ne]; omega
        refine G.dr mixed tab_ok ok_implIsNetwork [0, 1, 2, 3, 4, 5, 6, 7, 8, 9, 10, 11, 12, 13, 14, 15, 16, 17, 18, 19, 20, 21, 22, 23, 24, 25, 26, 27] (hk := ?_)
        refine G.iffF (h2 := ?_)
        apply G.seq
        refine G.rg tab_ok ok_implIsNetwork (hk := ?_)
        refine G.iffT (h1 := ?_)
        apply G.seq
        refine G.rg tab_ok ok_implIsNetwork (hk := ?_)
        refine G.fin tab_ok (hr := ?_)
        simp only [oneOrTup]
        congr 1
        symm
        rw [← netI_eq]
        exact netI_lk hjk (good_ends (by rw [hx]; exact ends_noT (fun h => c3 h.2.2.1) (fun h => by have := h.1; omega)))
       ·skip
        have c0 : x.to ≥ 0 := c1
        have c03 : x.ip ≥ 0 := c3
        have c5 : x.to.toNat < ps.length := by omega
        have cq : (x.to == -1) = false := by rw [beq_eq_false_iff_ne]; omega
        refine G.dr mixed tab_ok ok_implIsNetwork [0, 1, 2, 3, 4, 5, 6, 7, 8, 9, 10, 11, 12, 13, 14, 15, 16, 17, 18, 19, 20, 21, 22, 23, 24, 25, 26, 27] (hk := ?_)
        refine G.iffF (h2 := ?_)
        apply G.seq
        refine G.rg tab_ok ok_implIsNetwork (hk := ?_)
        refine G.iffT (h1 := ?_)
        apply G.seq
        refine G.rg tab_ok ok_implIsNetwork (hk := ?_)
        refine G.fin tab_ok (hr := ?_)
        simp only [oneOrTup]
        congr 1
        symm
        rw [← netI_eq]
        exact netI_lk hjk (good_ends (by rw [hx]; exact ends_noT (fun h => c4 h.2.2.2) (fun h => by have := h.1; omega)))
       ·skip
        have c0 : x.to ≥ 0 := c1
        have c03 : x.ip ≥ 0 := c3
        have c5 : x.to.toNat < ps.length := by omega
        have hw6 : IntKind.i64.wrap ((gtot endN (ks.take j) : Int) + (if x.fr ≥ 0 then 1 else 0) + 1) = (gtot endN (ks.take j) : Int) + (if x.fr ≥ 0 then 1 else 0) + 1 := wrap64 (by omega) (by omega)
        refine G.dr mixed tab_ok ok_implIsNetwork [0, 1, 2, 3, 4, 5, 6, 7, 8, 9, 10, 11, 12, 13, 14, 15, 16, 17, 18, 19, 20, 21, 22, 23, 24, 25, 26, 27] (hk := ?_)
        refine G.iffT (h1 := ?_)
        refine G.rg tab_ok ok_implIsNetwork (hk := ?_)
        refine G.fg [1, 3, 6, 7, 8, 9, 10, 42, 43, 44] (hk := ?_)
        refine G.meet (hvia20 (.inl ⟨c1, c2, c3, c4⟩)) ?_
        simp [c0]
      ·intro hQ2
       apply G.seq
       apply G.seq
       refine G.fg [1, 3, 6, 7, 8, 9, 10, 42, 43, 44] (hk := ?_)
       refine G.rg tab_ok ok_implIsNetwork (hk := ?_)
       refine G.fg [1, 3, 6, 7, 8, 42, 43, 44, 138] (hk := ?_)
       refine G.iff (h1 := fun h23 => ?_) (h2 := fun h23 => ?_)
       ·try simp only [zqz] at h23
        apply G.seq
        refine G.rg tab_ok ok_implIsNetwork (hk := ?_)
        refine G.fin tab_ok (hr := ?_)
        have hb : linkOk ps x = false := by
         rcases h23 with h | h
         ·exact link_no (.inl (by rw [Bool.eq_false_iff]; intro hh; exact (ends_iff.1 hh).2.2 ⟨⟨h.1.1, h.1.2⟩, h.2.1, h.2.2⟩))
         ·exact link_no (.inr h)
        simp only [oneOrTup]
        congr 1
        symm
        rw [← netI_eq]
        exact netI_lk hjk (good_link (by rw [hx]; exact hb))
       ·try simp only [zqz] at h23
        apply G.skip
        apply G.seq
        have hlk : linkOk ps (ks.getD j default) = true := by
         rw [hx]
         refine link_yes (fun h => ?_)
         have he : endsOk ps x = true := ends_iff.2 ⟨hQ1, hQ2, fun hh => h23.1 ⟨hh.1.1, hh.1.2⟩ hh.2.1 hh.2.2⟩
         rw [he, h23.2] at h
         simp at h
        have hmj : min j ks.length = j := by omega
        have htk : List.take j (ks.map kv) = (ks.take j).map kv := (List.map_take ..).symm
        have hgd : ∀ q, q < j → (ks.take j).getD q default = ks.getD q default := fun q hq => by simp [List.getD_eq_getElem?_getD, List.getElem?_take, hq]
        refine G.rg tab_ok ok_implIsNetwork (hk := ?_)
        apply G.block
        refine G.cn [1, 3, 6, 8, 42, 43, 44, 142, 143, 144] [0, 1] (h := ?_)
        refine G.loopX (fun q : Nat => ⟨[(1, .ptr 0 0 0), (3, .int .i64 (gtot portN ps : Nat)), (6, .int .i64 ((gtot endN (ks.take j) : Int) + (if x.fr ≥ 0 then 1 else 0) + (if x.to ≥ 0 then 1 else 0))), (8, .ptr 1 0 0), (42, .row false 5 (ks.map kv)), (43, .int .i64 ks.length), (44, .int .i64 j), (142, .row false 5 ((ks.take j).map kv)), (143, .int .i64 j), (144, .int .i64 q)], [some (2, [[.row false 3 (ps.map pv), .row false 5 (ks.map kv)]]), some (5, [[.int .i64 x.fr, .int .i64 x.ou, .int .i64 x.to, .int .i64 x.ip, .row false 1 (x.tk.map iv)]])], 189⟩) (fun q => q ≤ j ∧ ∀ m < q, clash x (ks.getD m default) = false) (fun q => j - q) (0) (⟨Nat.zero_le _, by omega⟩) (by simp) ?_
        intro q hq J hJ
        obtain ⟨hq, hcl⟩ := hq
        have hwq : IntKind.i64.wrap ((q : Int) + 1) = (q : Int) + 1 := wrap64 (by omega) (by omega)
        apply G.seq
        refine G.rg tab_ok ok_implIsNetwork (hk := ?_)
        apply G.seq
        refine G.iff (h1 := fun h24 => ?_) (h2 := fun h24 => ?_)
        ·try simp only [zqz] at h24
         apply G.skip
         apply G.seq
         apply G.block
         apply G.seq
         obtain ⟨y, hy⟩ : ∃ y, ks.getD q default = y := ⟨_, rfl⟩
         have hgy : (ks.take j).getD q default = y := by rw [hgd q (by omega), hy]
         refine G.rg tab_ok ok_implIsNetwork (hk := ?_)
         apply G.seq
         refine G.rgN 11 tab_ok ok_implIsNetwork (hk := ?_)
         refine G.rgM 7 tab_ok ok_implIsNetwork (hk := ?_)
         refine G.rgM 10 tab_ok ok_implIsNetwork (hk := ?_)
         refine G.rgC tab_ok ok_implIsNetwork (hk := ?_)
         refine G.fg [1, 3, 6, 8, 42, 43, 44, 142, 143, 144, 183] (hk := ?_)
         refine G.iff (h1 := fun h25 => ?_) (h2 := fun h25 => ?_)
         ·try simp only [zqz] at h25
          apply G.seq
          refine G.rg tab_ok ok_implIsNetwork (hk := ?_)
          refine G.fin tab_ok (hr := ?_)
          simp only [oneOrTup]
          congr 1
          symm
          rw [← netI_eq]
          exact netI_lk hjk (good_clash (q := q) (by omega) (clash_yes hx hy h25))
         ·try simp only [zqz] at h25
          apply G.skip
          apply G.blk
          refine G.rg tab_ok ok_implIsNetwork (hk := ?_)
          refine G.cn [1, 3, 6, 8, 42, 43, 44, 142, 143, 144] [0, 1] (h := ?_)
          exact G.upto (hJ (q + 1) ⟨by omega, up_step hcl (clash_no hy h25)⟩ (by omega)) (by simp)
        ·try simp only [zqz] at h24
         refine G.exit rfl ?_
         apply G.blk
         refine G.rg tab_ok ok_implIsNetwork (hk := ?_)
         refine G.cn [1, 3, 6, 42, 43, 44] [0] (h := ?_)
         have hes := gtot_succ (f := endN) hjk
         have hen2 : (endN x : Int) = (if x.fr ≥ 0 then 1 else 0) + (if x.to ≥ 0 then 1 else 0) := by unfold endN; split <;> split <;> rfl
         rw [hx] at hes
         have he3 : (gtot endN (ks.take (j + 1)) : Int) = (gtot endN (ks.take j) : Int) + (if x.fr ≥ 0 then 1 else 0) + (if x.to ≥ 0 then 1 else 0) := by omega
         exact G.upto (hJ2 (j + 1) ⟨by omega, up_step hall (good_yes hlk (fun q hq => by rw [hx]; exact hcl q (by omega)))⟩ (by omega)) (by rw [he3]; simp)
   ·try simp only [zqz] at h4
    refine G.exit rfl ?_
    apply G.seq
    refine G.rg tab_ok ok_implIsNetwork (hk := ?_)
    refine G.fin tab_ok (hr := ?_)
    obtain rfl : j = ks.length := by omega
    rw [List.take_length]
    simp only [oneOrTup]
    congr 1
    symm
    rw [← netI_eq]
    exact netI_end hs12 hpa (fun k hk => hall k (by omega))
def r_implIsNetwork (xs0 : List A) (rr : A) : Prop := ∃ (ps : List PG) (ks : List LK), (NW ps) ∧ (KW ks) ∧ (ps.length < 3518437208781) ∧ (ks.length < 2513169434844) ∧ xs0 = [.agg [.row false 3 (ps.map pv), .row false 5 (ks.map kv)]] ∧ rr = .bool (netOk ps ks)
noncomputable def q_implIsNetwork : List A → Option A := kgr r_implIsNetwork
theorem k_implIsNetwork : KOk Try.prog (70, q_implIsNetwork) := kgr_ok (enters_of Try.func70 rfl rfl) (by rintro xs0 rr ⟨ps, ks, hc1, hc2, hc3, hc4, rfl, rfl⟩; exact implIsNetwork_ac ps ks hc1 hc2 hc3 hc4)
theorem e_implIsNetwork : ∀ (ps : List PG) (ks : List LK), (NW ps) → (KW ks) → (ps.length < 3518437208781) → (ks.length < 2513169434844) → q_implIsNetwork [.agg [.row false 3 (ps.map pv), .row false 5 (ks.map kv)]] = some (.bool (netOk ps ks)) := by
 intro ps ks hc1 hc2 hc3 hc4
 refine kgr_eq (fun xs0 rr r2 h h2 => ?_) ⟨ps, ks, hc1, hc2, hc3, hc4, rfl, rfl⟩
 obtain ⟨ps1, ks1, _, _, _, _, e1, rfl⟩ := h; obtain ⟨ps2, ks2, _, _, _, _, e2, rfl⟩ := h2
 rw [e1] at e2
 simp only [List.cons.injEq, A.int.injEq, A.bool.injEq, A.agg.injEq, A.row.injEq, pv_inj, kv_inj, true_and, and_true] at e2
 obtain ⟨e3, e4⟩ := e2
 subst e3 e4
 rfl
theorem l3To_ac (ps : List PG) (ks : List LK) (p : Int) (q : Int) (hc1 : KW ks) (hc2 : ks.length < 2513169434844) : AC Try.prog 146 [.agg [.row false 3 (ps.map pv), .row false 5 (ks.map kv)], .int .i64 p, .int .i64 q] (.int .i64 (onlyAt (isTo p q) ks)) := by
 refine AC.of tab_ok Try.func146 rfl (Nat.le_of_ble_eq_true rfl) fun w0 S0 => ?_
 change G _ _ ⟨[(0, .agg [.row false 3 (ps.map pv), .row false 5 (ks.map kv)]), (1, .int .i64 p), (2, .int .i64 q)], [], 33⟩
 apply G.seq
 refine G.rg tab_ok (kof_nil _) (hk := ?_)
 apply G.seq
 refine G.rg tab_ok (kof_nil _) (hk := ?_)
 apply G.seq
 apply G.seq
 refine G.rg tab_ok (kof_nil _) (hk := ?_)
 apply G.block
 refine G.cn [1, 2, 7, 11, 12, 13] [] (h := ?_)
 refine G.loopX (fun x : Nat × Int => ⟨[(1, .int .i64 p), (2, .int .i64 q), (7, .int .i64 x.2), (11, .row false 5 (ks.map kv)), (12, .int .i64 ks.length), (13, .int .i64 x.1)], [], 33⟩) (fun x => x.1 ≤ ks.length ∧ onlyUp (isTo p q) ks x.1 x.2) (fun x => ks.length - x.1) ((0, -1)) (⟨Nat.zero_le _, onlyUp_zero⟩) (by simp) ?_
 intro x hx J2 hJ
 obtain ⟨j, a⟩ := x
 simp only at hx ⊢
 obtain ⟨hj, hu⟩ := hx
 have hw : IntKind.i64.wrap ((j : Int) + 1) = (j : Int) + 1 := wrap64 (by omega) (by omega)
 apply G.seq
 refine G.rg tab_ok (kof_nil _) (hk := ?_)
 apply G.seq
 refine G.iff (h1 := fun h1 => ?_) (h2 := fun h1 => ?_)
 ·try simp only [zqz] at h1
  apply G.skip
  apply G.seq
  apply G.block
  apply G.seq
  refine G.rg tab_ok (kof_nil _) (hk := ?_)
  apply G.seq
  refine G.rg tab_ok (kof_nil _) (hk := ?_)
  refine G.fg [1, 2, 7, 8, 11, 12, 13, 27] (hk := ?_)
  refine G.iff (h1 := fun h2 => ?_) (h2 := fun h2 => ?_)
  ·try simp only [zqz] at h2
   apply G.seq
   apply G.seq
   refine G.rg tab_ok (kof_nil _) (hk := ?_)
   refine G.iff (h1 := fun h3 => ?_) (h2 := fun h3 => ?_)
   ·try simp only [zqz] at h3
    apply G.seq
    refine G.rg tab_ok (kof_nil _) (hk := ?_)
    refine G.fin tab_ok (hr := ?_)
    simp only [oneOrTup]
    congr 1
    symm
    exact onlyUp_two hu (by omega) h1 (by simp only [isTo, Bool.and_eq_true, beq_iff_eq]; exact ⟨h2.1, h2.2⟩)
   ·try simp only [zqz] at h3
    apply G.skip
    refine G.rg tab_ok (kof_nil _) (hk := ?_)
    apply G.blk
    refine G.rg tab_ok (kof_nil _) (hk := ?_)
    refine G.cn [1, 2, 7, 11, 12, 13] [] (h := ?_)
    first
    | exact G.upto (hJ (j + 1, (j : Int)) ⟨by simp only; omega, onlyUp_yes hu (by omega) (by simp only [isTo, Bool.and_eq_true, beq_iff_eq]; exact ⟨h2.1, h2.2⟩)⟩ (by simp only; omega)) (by simp)
    | exact G.upto (hJ (j + 1, a) ⟨by simp only; omega, onlyUp_no hu (by rw [Bool.eq_false_iff]; simp only [isTo, ne_eq, Bool.and_eq_true, beq_iff_eq]; exact fun hh => h2 hh.1 hh.2)⟩ (by simp only; omega)) (by simp)
  ·try simp only [zqz] at h2
   apply G.skip
   apply G.blk
   refine G.rg tab_ok (kof_nil _) (hk := ?_)
   refine G.cn [1, 2, 7, 11, 12, 13] [] (h := ?_)
   first
   | exact G.upto (hJ (j + 1, (j : Int)) ⟨by simp only; omega, onlyUp_yes hu (by omega) (by simp only [isTo, Bool.and_eq_true, beq_iff_eq]; exact ⟨h2.1, h2.2⟩)⟩ (by simp only; omega)) (by simp)
   | exact G.upto (hJ (j + 1, a) ⟨by simp only; omega, onlyUp_no hu (by rw [Bool.eq_false_iff]; simp only [isTo, ne_eq, Bool.and_eq_true, beq_iff_eq]; exact fun hh => h2 hh.1 hh.2)⟩ (by simp only; omega)) (by simp)
 ·try simp only [zqz] at h1
  refine G.exit rfl ?_
  apply G.seq
  refine G.rg tab_ok (kof_nil _) (hk := ?_)
  obtain rfl : j = ks.length := by omega
  refine G.fin tab_ok (hr := ?_)
  simp only [oneOrTup]
  congr 1
  exact (onlyUp_end hu).symm
def r_l3To (xs0 : List A) (rr : A) : Prop := ∃ (ps : List PG) (ks : List LK) (p : Int) (q : Int), (KW ks) ∧ (ks.length < 2513169434844) ∧ xs0 = [.agg [.row false 3 (ps.map pv), .row false 5 (ks.map kv)], .int .i64 p, .int .i64 q] ∧ rr = .int .i64 (onlyAt (isTo p q) ks)
noncomputable def q_l3To : List A → Option A := kgr r_l3To
theorem k_l3To : KOk Try.prog (146, q_l3To) := kgr_ok (enters_of Try.func146 rfl rfl) (by rintro xs0 rr ⟨ps, ks, p, q, hc1, hc2, rfl, rfl⟩; exact l3To_ac ps ks p q hc1 hc2)
theorem e_l3To : ∀ (ps : List PG) (ks : List LK) (p : Int) (q : Int), (KW ks) → (ks.length < 2513169434844) → q_l3To [.agg [.row false 3 (ps.map pv), .row false 5 (ks.map kv)], .int .i64 p, .int .i64 q] = some (.int .i64 (onlyAt (isTo p q) ks)) := by
 intro ps ks p q hc1 hc2
 refine kgr_eq (fun xs0 rr r2 h h2 => ?_) ⟨ps, ks, p, q, hc1, hc2, rfl, rfl⟩
 obtain ⟨ps1, ks1, p1, q1, _, _, e1, rfl⟩ := h; obtain ⟨ps2, ks2, p2, q2, _, _, e2, rfl⟩ := h2
 rw [e1] at e2
 simp only [List.cons.injEq, A.int.injEq, A.agg.injEq, A.row.injEq, pv_inj, kv_inj, true_and, and_true] at e2
 obtain ⟨⟨e3, e4⟩, e5, e6⟩ := e2
 subst e3 e4 e5 e6
 rfl
theorem l3From_ac (ps : List PG) (ks : List LK) (p : Int) (q : Int) (hc1 : KW ks) (hc2 : ks.length < 2513169434844) : AC Try.prog 147 [.agg [.row false 3 (ps.map pv), .row false 5 (ks.map kv)], .int .i64 p, .int .i64 q] (.int .i64 (onlyAt (isFr p q) ks)) := by
 refine AC.of tab_ok Try.func147 rfl (Nat.le_of_ble_eq_true rfl) fun w0 S0 => ?_
 change G _ _ ⟨[(0, .agg [.row false 3 (ps.map pv), .row false 5 (ks.map kv)]), (1, .int .i64 p), (2, .int .i64 q)], [], 33⟩
 apply G.seq
 refine G.rg tab_ok (kof_nil _) (hk := ?_)
 apply G.seq
 refine G.rg tab_ok (kof_nil _) (hk := ?_)
 apply G.seq
 apply G.seq
 refine G.rg tab_ok (kof_nil _) (hk := ?_)
 apply G.block
 refine G.cn [1, 2, 7, 11, 12, 13] [] (h := ?_)
 refine G.loopX (fun x : Nat × Int => ⟨[(1, .int .i64 p), (2, .int .i64 q), (7, .int .i64 x.2), (11, .row false 5 (ks.map kv)), (12, .int .i64 ks.length), (13, .int .i64 x.1)], [], 33⟩) (fun x => x.1 ≤ ks.length ∧ onlyUp (isFr p q) ks x.1 x.2) (fun x => ks.length - x.1) ((0, -1)) (⟨Nat.zero_le _, onlyUp_zero⟩) (by simp) ?_
 intro x hx J2 hJ
 obtain ⟨j, a⟩ := x
 simp only at hx ⊢
 obtain ⟨hj, hu⟩ := hx
 have hw : IntKind.i64.wrap ((j : Int) + 1) = (j : Int) + 1 := wrap64 (by omega) (by omega)
 apply G.seq
 refine G.rg tab_ok (kof_nil _) (hk := ?_)
 apply G.seq
 refine G.iff (h1 := fun h1 => ?_) (h2 := fun h1 => ?_)
 ·try simp only [zqz] at h1
  apply G.skip
  apply G.seq
  apply G.block
  apply G.seq
  refine G.rg tab_ok (kof_nil _) (hk := ?_)
  apply G.seq
  refine G.rg tab_ok (kof_nil _) (hk := ?_)
  refine G.fg [1, 2, 7, 8, 11, 12, 13, 27] (hk := ?_)
  refine G.iff (h1 := fun h2 => ?_) (h2 := fun h2 => ?_)
  ·try simp only [zqz] at h2
   apply G.seq
   apply G.seq
   refine G.rg tab_ok (kof_nil _) (hk := ?_)
   refine G.iff (h1 := fun h3 => ?_) (h2 := fun h3 => ?_)
   ·try simp only [zqz] at h3
    apply G.seq
    refine G.rg tab_ok (kof_nil _) (hk := ?_)
    refine G.fin tab_ok (hr := ?_)
    simp only [oneOrTup]
    congr 1
    symm
    exact onlyUp_two hu (by omega) h1 (by simp only [isFr, Bool.and_eq_true, beq_iff_eq]; exact ⟨h2.1, h2.2⟩)
   ·try simp only [zqz] at h3
    apply G.skip
    refine G.rg tab_ok (kof_nil _) (hk := ?_)
    apply G.blk
    refine G.rg tab_ok (kof_nil _) (hk := ?_)
    refine G.cn [1, 2, 7, 11, 12, 13] [] (h := ?_)
    first
    | exact G.upto (hJ (j + 1, (j : Int)) ⟨by simp only; omega, onlyUp_yes hu (by omega) (by simp only [isFr, Bool.and_eq_true, beq_iff_eq]; exact ⟨h2.1, h2.2⟩)⟩ (by simp only; omega)) (by simp)
    | exact G.upto (hJ (j + 1, a) ⟨by simp only; omega, onlyUp_no hu (by rw [Bool.eq_false_iff]; simp only [isFr, ne_eq, Bool.and_eq_true, beq_iff_eq]; exact fun hh => h2 hh.1 hh.2)⟩ (by simp only; omega)) (by simp)
  ·try simp only [zqz] at h2
   apply G.skip
   apply G.blk
   refine G.rg tab_ok (kof_nil _) (hk := ?_)
   refine G.cn [1, 2, 7, 11, 12, 13] [] (h := ?_)
   first
   | exact G.upto (hJ (j + 1, (j : Int)) ⟨by simp only; omega, onlyUp_yes hu (by omega) (by simp only [isFr, Bool.and_eq_true, beq_iff_eq]; exact ⟨h2.1, h2.2⟩)⟩ (by simp only; omega)) (by simp)
   | exact G.upto (hJ (j + 1, a) ⟨by simp only; omega, onlyUp_no hu (by rw [Bool.eq_false_iff]; simp only [isFr, ne_eq, Bool.and_eq_true, beq_iff_eq]; exact fun hh => h2 hh.1 hh.2)⟩ (by simp only; omega)) (by simp)
 ·try simp only [zqz] at h1
  refine G.exit rfl ?_
  apply G.seq
  refine G.rg tab_ok (kof_nil _) (hk := ?_)
  obtain rfl : j = ks.length := by omega
  refine G.fin tab_ok (hr := ?_)
  simp only [oneOrTup]
  congr 1
  exact (onlyUp_end hu).symm
def r_l3From (xs0 : List A) (rr : A) : Prop := ∃ (ps : List PG) (ks : List LK) (p : Int) (q : Int), (KW ks) ∧ (ks.length < 2513169434844) ∧ xs0 = [.agg [.row false 3 (ps.map pv), .row false 5 (ks.map kv)], .int .i64 p, .int .i64 q] ∧ rr = .int .i64 (onlyAt (isFr p q) ks)
noncomputable def q_l3From : List A → Option A := kgr r_l3From
theorem k_l3From : KOk Try.prog (147, q_l3From) := kgr_ok (enters_of Try.func147 rfl rfl) (by rintro xs0 rr ⟨ps, ks, p, q, hc1, hc2, rfl, rfl⟩; exact l3From_ac ps ks p q hc1 hc2)
theorem e_l3From : ∀ (ps : List PG) (ks : List LK) (p : Int) (q : Int), (KW ks) → (ks.length < 2513169434844) → q_l3From [.agg [.row false 3 (ps.map pv), .row false 5 (ks.map kv)], .int .i64 p, .int .i64 q] = some (.int .i64 (onlyAt (isFr p q) ks)) := by
 intro ps ks p q hc1 hc2
 refine kgr_eq (fun xs0 rr r2 h h2 => ?_) ⟨ps, ks, p, q, hc1, hc2, rfl, rfl⟩
 obtain ⟨ps1, ks1, p1, q1, _, _, e1, rfl⟩ := h; obtain ⟨ps2, ks2, p2, q2, _, _, e2, rfl⟩ := h2
 rw [e1] at e2
 simp only [List.cons.injEq, A.int.injEq, A.agg.injEq, A.row.injEq, pv_inj, kv_inj, true_and, and_true] at e2
 obtain ⟨⟨e3, e4⟩, e5, e6⟩ := e2
 subst e3 e4 e5 e6
 rfl
theorem ok_l3Ends : Kn.ok Try.prog (kof [(73, q_l1In)]) := kof_cons k_l1In ((kof_nil _))
theorem l3Ends_ac (ps : List PG) (ks : List LK) (fr : Int) (ou : Int) (to : Int) (ip : Int) (tk : List Int) (hc1 : ps.length < 3518437208781) (hc2 : ps.all pgOk = true) : AC Try.prog 145 [.agg [.row false 3 (ps.map pv), .row false 5 (ks.map kv)], .agg [.int .i64 fr, .int .i64 ou, .int .i64 to, .int .i64 ip, .row false 1 (tk.map iv)]] (.bool (endsOk ps ⟨fr, ou, to, ip, tk⟩)) := by
 have e_l1In := e_l1In
 have hw0 : IntKind.i64.wrap ((ps.length : Int) - 1) = (ps.length : Int) - 1 := wrap64 (by omega) (by omega)
 have hw1 : IntKind.i64.wrap 0 = 0 := wrap64 (by omega) (by omega)
 refine AC.of tab_ok Try.func145 rfl (Nat.le_of_ble_eq_true rfl) fun w0 S0 => ?_
 change G _ _ ⟨[(0, .agg [.row false 3 (ps.map pv), .row false 5 (ks.map kv)]), (1, .agg [.int .i64 fr, .int .i64 ou, .int .i64 to, .int .i64 ip, .row false 1 (tk.map iv)])], [], 67⟩
 apply G.seq
 refine G.rg tab_ok ok_l3Ends (hk := ?_)
 apply G.seq
 apply G.seq
 refine G.rg tab_ok ok_l3Ends (hk := ?_)
 refine G.fg [2, 3, 34] (hk := ?_)
 refine G.iff (h1 := fun h1 => ?_) (h2 := fun h1 => ?_)
 ·try simp only [zqz] at h1
  apply G.seq
  refine G.rg tab_ok ok_l3Ends (hk := ?_)
  refine G.fin tab_ok (hr := ?_)
  simp only [oneOrTup]
  congr 1
  symm
  rw [Bool.eq_false_iff]
  intro hh
  simp only [endsOk, inR, Bool.and_eq_true, decide_eq_true_eq, Bool.not_eq_true', Bool.and_eq_false_imp, beq_iff_eq, beq_eq_false_iff_ne] at hh
  omega
 ·try simp only [zqz] at h1
  apply G.skip
  apply G.seq
  have hin : (-1 ≤ fr ∧ fr < (ps.length : Int)) ∧ (-1 ≤ to ∧ to < (ps.length : Int)) ∧ ¬ (fr = -1 ∧ to = -1) := by omega
  obtain ⟨⟨hf1, hf2⟩, ⟨ht1, ht2⟩, hn⟩ := hin
  refine G.rg tab_ok ok_l3Ends (hk := ?_)
  apply G.seq
  apply G.seq
  refine G.rg tab_ok ok_l3Ends (hk := ?_)
  refine G.iff (h1 := fun h2 => ?_) (h2 := fun h2 => ?_)
  ·try simp only [zqz] at h2
   have hf3 : fr.toNat < ps.length := by omega
   obtain ⟨_, ho, _⟩ := pg_bd hc2 hf3
   have hwo : IntKind.i64.wrap ((ps.getD fr.toNat default).o - 1) = (ps.getD fr.toNat default).o - 1 := wrap64 (by omega) (by omega)
   refine G.rg tab_ok ok_l3Ends (hk := ?_)
   apply G.seq
   refine G.rg tab_ok ok_l3Ends (hk := ?_)
   apply G.seq
   apply G.seq
   refine G.rg tab_ok ok_l3Ends (hk := ?_)
   refine G.fg [2, 3, 5, 6, 47] (hk := ?_)
   refine G.iff (h1 := fun h3 => ?_) (h2 := fun h3 => ?_)
   ·try simp only [zqz] at h3
    have ht3 : to.toNat < ps.length := by omega
    obtain ⟨hi, _, _⟩ := pg_bd hc2 ht3
    have hwi : IntKind.i64.wrap ((ps.getD to.toNat default).i - 1) = (ps.getD to.toNat default).i - 1 := wrap64 (by omega) (by omega)
    refine G.rg tab_ok ok_l3Ends (hk := ?_)
    apply G.seq
    refine G.rg tab_ok ok_l3Ends (hk := ?_)
    refine G.fin tab_ok (hr := ?_)
    simp only [oneOrTup]
    congr 1
    rw [Bool.eq_iff_iff]
    simp only [endsOk, inR, Bool.and_eq_true, decide_eq_true_eq, Bool.not_eq_true', Bool.and_eq_false_imp, beq_iff_eq, beq_eq_false_iff_ne]
    rw [if_pos h2]
    rw [if_pos h3]
    omega
   ·try simp only [zqz] at h3
    apply G.skip
    apply G.seq
    refine G.rg tab_ok ok_l3Ends (hk := ?_)
    refine G.fin tab_ok (hr := ?_)
    simp only [oneOrTup]
    congr 1
    rw [Bool.eq_iff_iff]
    simp only [endsOk, inR, Bool.and_eq_true, decide_eq_true_eq, Bool.not_eq_true', Bool.and_eq_false_imp, beq_iff_eq, beq_eq_false_iff_ne]
    rw [if_pos h2]
    rw [if_neg (by omega)]
    omega
  ·try simp only [zqz] at h2
   apply G.skip
   apply G.seq
   refine G.rg tab_ok ok_l3Ends (hk := ?_)
   apply G.seq
   apply G.seq
   refine G.rg tab_ok ok_l3Ends (hk := ?_)
   refine G.iff (h1 := fun h4 => ?_) (h2 := fun h4 => ?_)
   ·try simp only [zqz] at h4
    have ht3 : to.toNat < ps.length := by omega
    obtain ⟨hi, _, _⟩ := pg_bd hc2 ht3
    have hwi : IntKind.i64.wrap ((ps.getD to.toNat default).i - 1) = (ps.getD to.toNat default).i - 1 := wrap64 (by omega) (by omega)
    refine G.rg tab_ok ok_l3Ends (hk := ?_)
    apply G.seq
    refine G.rg tab_ok ok_l3Ends (hk := ?_)
    refine G.fin tab_ok (hr := ?_)
    simp only [oneOrTup]
    congr 1
    rw [Bool.eq_iff_iff]
    simp only [endsOk, inR, Bool.and_eq_true, decide_eq_true_eq, Bool.not_eq_true', Bool.and_eq_false_imp, beq_iff_eq, beq_eq_false_iff_ne]
    rw [if_neg (by omega)]
    rw [if_pos h4]
    omega
   ·try simp only [zqz] at h4
    apply G.skip
    apply G.seq
    refine G.rg tab_ok ok_l3Ends (hk := ?_)
    refine G.fin tab_ok (hr := ?_)
    simp only [oneOrTup]
    congr 1
    rw [Bool.eq_iff_iff]
    simp only [endsOk, inR, Bool.and_eq_true, decide_eq_true_eq, Bool.not_eq_true', Bool.and_eq_false_imp, beq_iff_eq, beq_eq_false_iff_ne]
    rw [if_neg (by omega)]
    rw [if_neg (by omega)]
    omega
def r_l3Ends (xs0 : List A) (rr : A) : Prop := ∃ (ps : List PG) (ks : List LK) (fr : Int) (ou : Int) (to : Int) (ip : Int) (tk : List Int), (ps.length < 3518437208781) ∧ (ps.all pgOk = true) ∧ xs0 = [.agg [.row false 3 (ps.map pv), .row false 5 (ks.map kv)], .agg [.int .i64 fr, .int .i64 ou, .int .i64 to, .int .i64 ip, .row false 1 (tk.map iv)]] ∧ rr = .bool (endsOk ps ⟨fr, ou, to, ip, tk⟩)
noncomputable def q_l3Ends : List A → Option A := kgr r_l3Ends
theorem k_l3Ends : KOk Try.prog (145, q_l3Ends) := kgr_ok (enters_of Try.func145 rfl rfl) (by rintro xs0 rr ⟨ps, ks, fr, ou, to, ip, tk, hc1, hc2, rfl, rfl⟩; exact l3Ends_ac ps ks fr ou to ip tk hc1 hc2)
theorem e_l3Ends : ∀ (ps : List PG) (ks : List LK) (fr : Int) (ou : Int) (to : Int) (ip : Int) (tk : List Int), (ps.length < 3518437208781) → (ps.all pgOk = true) → q_l3Ends [.agg [.row false 3 (ps.map pv), .row false 5 (ks.map kv)], .agg [.int .i64 fr, .int .i64 ou, .int .i64 to, .int .i64 ip, .row false 1 (tk.map iv)]] = some (.bool (endsOk ps ⟨fr, ou, to, ip, tk⟩)) := by
 intro ps ks fr ou to ip tk hc1 hc2
 refine kgr_eq (fun xs0 rr r2 h h2 => ?_) ⟨ps, ks, fr, ou, to, ip, tk, hc1, hc2, rfl, rfl⟩
 obtain ⟨ps1, ks1, fr1, ou1, to1, ip1, tk1, _, _, e1, rfl⟩ := h; obtain ⟨ps2, ks2, fr2, ou2, to2, ip2, tk2, _, _, e2, rfl⟩ := h2
 rw [e1] at e2
 simp only [List.cons.injEq, A.int.injEq, A.agg.injEq, A.row.injEq, pv_inj, kv_inj, iv_inj, true_and, and_true] at e2
 obtain ⟨⟨e3, e4⟩, e5, e6, e7, e8, e9⟩ := e2
 subst e3 e4 e5 e6 e7 e8 e9
 rfl
theorem ok_specIsNetwork : Kn.ok Try.prog (kof [(80, q_specIsProgram), (145, q_l3Ends), (75, q_specIsStream), (146, q_l3To), (147, q_l3From)]) := kof_cons k_specIsProgram (kof_cons k_l3Ends (kof_cons k_specIsStream (kof_cons k_l3To (kof_cons k_l3From ((kof_nil _))))))
theorem specIsNetwork_ac (ps : List PG) (ks : List LK) (hc1 : NW ps) (hc2 : KW ks) (hc3 : ps.length < 3518437208781) (hc4 : ks.length < 2513169434844) : AC Try.prog 72 [.agg [.row false 3 (ps.map pv), .row false 5 (ks.map kv)]] (.bool (netOk ps ks)) := by
 have e_specIsProgram := e_specIsProgram
 have e_l3Ends := e_l3Ends
 have e_specIsStream := e_specIsStream
 have e_l3To := e_l3To
 have e_l3From := e_l3From
 refine AC.of tab_ok Try.func72 rfl (Nat.le_of_ble_eq_true rfl) fun w0 S0 => ?_
 change G _ _ ⟨[(0, .agg [.row false 3 (ps.map pv), .row false 5 (ks.map kv)])], [], 81⟩
 apply G.seq
 refine G.rg tab_ok ok_specIsNetwork (hk := ?_)
 apply G.seq
 apply G.seq
 refine G.rg tab_ok ok_specIsNetwork (hk := ?_)
 refine G.fg [1, 20] (hk := ?_)
 refine G.iff (h1 := fun h1 => ?_) (h2 := fun h1 => ?_)
 ·try simp only [zqz] at h1
  apply G.seq
  refine G.rg tab_ok ok_specIsNetwork (hk := ?_)
  refine G.fin tab_ok (hr := ?_)
  simp only [oneOrTup]
  congr 1
  exact (netOk_small h1).symm
 ·try simp only [zqz] at h1
  apply G.skip
  apply G.seq
  apply G.seq
  refine G.rg tab_ok ok_specIsNetwork (hk := ?_)
  apply G.block
  have hs12 : netSmall ps ks = true := small_yes (by omega)
  refine G.cn [1, 22, 23, 24] [0] (h := ?_)
  refine G.loopX (fun j : Nat => ⟨[(1, .ptr 0 0 0), (22, .row false 3 (ps.map pv)), (23, .int .i64 ps.length), (24, .int .i64 j)], [some (2, [[.row false 3 (ps.map pv), .row false 5 (ks.map kv)]])], 81⟩) (fun j => j ≤ ps.length ∧ ∀ k < j, pgOk (ps.getD k default) = true) (fun j => ps.length - j) (0) (⟨Nat.zero_le _, by omega⟩) (by simp) ?_
  intro j hj J hJ
  obtain ⟨hj, hall⟩ := hj
  have hw : IntKind.i64.wrap ((j : Int) + 1) = (j : Int) + 1 := wrap64 (by omega) (by omega)
  apply G.seq
  refine G.rg tab_ok ok_specIsNetwork (hk := ?_)
  apply G.seq
  refine G.iff (h1 := fun h2 => ?_) (h2 := fun h2 => ?_)
  ·try simp only [zqz] at h2
   apply G.skip
   apply G.seq
   apply G.block
   apply G.seq
   refine G.rg tab_ok ok_specIsNetwork (hk := ?_)
   apply G.seq
   have hlr : (ps.getD j default).l.length < 4398046511104 := hc1 _ (getD_mem0 h2)
   refine G.rg tab_ok ok_specIsNetwork (hk := ?_)
   refine G.iff (h1 := fun h3 => ?_) (h2 := fun h3 => ?_)
   ·try simp only [zqz] at h3
    apply G.seq
    refine G.rg tab_ok ok_specIsNetwork (hk := ?_)
    refine G.fin tab_ok (hr := ?_)
    simp only [oneOrTup]
    congr 1
    exact (netOk_pg h2 h3).symm
   ·try simp only [zqz] at h3
    apply G.skip
    apply G.blk
    refine G.rg tab_ok ok_specIsNetwork (hk := ?_)
    refine G.cn [1, 22, 23, 24] [0] (h := ?_)
    exact G.upto (hJ (j + 1) ⟨by omega, gupto (p := pgOk) hall h3⟩ (by omega)) (by simp)
  ·try simp only [zqz] at h2
   refine G.exit rfl ?_
   apply G.seq
   apply G.seq
   refine G.rg tab_ok ok_specIsNetwork (hk := ?_)
   apply G.block
   have hpa : ps.all pgOk = true := gall (p := pgOk) (fun k hk => hall k (by omega))
   clear hJ hall hj
   refine G.cn [1, 33, 34, 35] [0] (h := ?_)
   refine G.loopX (fun j : Nat => ⟨[(1, .ptr 0 0 0), (33, .row false 5 (ks.map kv)), (34, .int .i64 ks.length), (35, .int .i64 j)], [some (2, [[.row false 3 (ps.map pv), .row false 5 (ks.map kv)]])], 81⟩) (fun j => j ≤ ks.length ∧ ∀ k < j, linkOk ps (ks.getD k default) = true) (fun j => ks.length - j) (0) (⟨Nat.zero_le _, by omega⟩) (by simp) ?_
   intro j hj J hJ
   obtain ⟨hj, hall⟩ := hj
   have hw : IntKind.i64.wrap ((j : Int) + 1) = (j : Int) + 1 := wrap64 (by omega) (by omega)
   apply G.seq
   refine G.rg tab_ok ok_specIsNetwork (hk := ?_)
   apply G.seq
   refine G.iff (h1 := fun h4 => ?_) (h2 := fun h4 => ?_)
   ·try simp only [zqz] at h4
    apply G.skip
    apply G.seq
    apply G.block
    apply G.seq
    refine G.rg tab_ok ok_specIsNetwork (hk := ?_)
    apply G.seq
    have hlr : (ks.getD j default).tk.length < 17592186044416 := hc2 _ (getD_mem0 h4)
    refine G.rg tab_ok ok_specIsNetwork (hk := ?_)
    refine G.fg [1, 33, 34, 35, 48] (hk := ?_)
    refine G.iff (h1 := fun h5 => ?_) (h2 := fun h5 => ?_)
    ·try simp only [zqz] at h5
     apply G.seq
     refine G.rg tab_ok ok_specIsNetwork (hk := ?_)
     refine G.fin tab_ok (hr := ?_)
     simp only [oneOrTup]
     congr 1
     exact (netOk_lk h4 (link_no (if_no h5))).symm
    ·try simp only [zqz] at h5
     apply G.skip
     apply G.blk
     refine G.rg tab_ok ok_specIsNetwork (hk := ?_)
     refine G.cn [1, 33, 34, 35] [0] (h := ?_)
     exact G.upto (hJ (j + 1) ⟨by omega, gupto (p := linkOk ps) hall (link_yes (if_yes h5))⟩ (by omega)) (by simp)
   ·try simp only [zqz] at h4
    refine G.exit rfl ?_
    apply G.seq
    apply G.seq
    refine G.rg tab_ok ok_specIsNetwork (hk := ?_)
    apply G.block
    have hla : ks.all (linkOk ps) = true := gall (p := linkOk ps) (fun k hk => hall k (by omega))
    clear hJ hall hj
    refine G.cn [1, 51, 52, 53] [0] (h := ?_)
    refine G.loopX (fun i : Nat => ⟨[(1, .ptr 0 0 0), (51, .row false 3 (ps.map pv)), (52, .int .i64 ps.length), (53, .int .i64 i)], [some (2, [[.row false 3 (ps.map pv), .row false 5 (ks.map kv)]])], 81⟩) (fun i => i ≤ ps.length ∧ ∀ k < i, portsOk ps ks k = true) (fun i => ps.length - i) (0) (⟨Nat.zero_le _, by omega⟩) (by simp) ?_
    intro i hi J2 hJ2
    obtain ⟨hi, hpo⟩ := hi
    have hwi : IntKind.i64.wrap ((i : Int) + 1) = (i : Int) + 1 := wrap64 (by omega) (by omega)
    apply G.seq
    refine G.rg tab_ok ok_specIsNetwork (hk := ?_)
    apply G.seq
    refine G.iff (h1 := fun h6 => ?_) (h2 := fun h6 => ?_)
    ·try simp only [zqz] at h6
     apply G.skip
     apply G.seq
     apply G.block
     apply G.seq
     refine G.rg tab_ok ok_specIsNetwork (hk := ?_)
     apply G.seq
     apply G.seq
     refine G.rg tab_ok ok_specIsNetwork (hk := ?_)
     apply G.block
     obtain ⟨⟨bi0, bi3⟩, ⟨bo0, bo3⟩, _, _⟩ := pg_bd hpa (k := i) (by omega)
     refine G.cn [1, 7, 8, 9, 51, 52, 53] [0, 1] (h := ?_)
     refine G.loopX (fun k : Nat => ⟨[(1, .ptr 0 0 0), (7, .int .i64 i), (8, .ptr 1 0 0), (9, .int .i64 k), (51, .row false 3 (ps.map pv)), (52, .int .i64 ps.length), (53, .int .i64 i)], [some (2, [[.row false 3 (ps.map pv), .row false 5 (ks.map kv)]]), some (3, [[.int .i64 (ps.getD i default).i, .int .i64 (ps.getD i default).o, .row false 4 ((ps.getD i default).l.map insv)]])], 81⟩) (fun k => k ≤ (ps.getD i default).i.toNat ∧ ∀ m < k, 0 ≤ onlyAt (isTo i m) ks) (fun k => (ps.getD i default).i.toNat - k) (0) (⟨Nat.zero_le _, by omega⟩) (by simp) ?_
     intro k hk J hJ
     obtain ⟨hk, hall⟩ := hk
     have hwk : IntKind.i64.wrap ((k : Int) + 1) = (k : Int) + 1 := wrap64 (by omega) (by omega)
     apply G.seq
     apply G.seq
     refine G.rg tab_ok ok_specIsNetwork (hk := ?_)
     refine G.iff (h1 := fun h7 => ?_) (h2 := fun h7 => ?_)
     ·try simp only [zqz] at h7
      apply G.skip
      apply G.seq
      apply G.block
      apply G.seq
      refine G.rg tab_ok ok_specIsNetwork (hk := ?_)
      refine G.fg [1, 7, 8, 9, 51, 52, 53, 68] (hk := ?_)
      refine G.iff (h1 := fun h8 => ?_) (h2 := fun h8 => ?_)
      ·try simp only [zqz] at h8
       apply G.seq
       refine G.rg tab_ok ok_specIsNetwork (hk := ?_)
       refine G.fin tab_ok (hr := ?_)
       simp only [oneOrTup]
       congr 1
       exact (netOk_in h6 h7 h8).symm
      ·try simp only [zqz] at h8
       apply G.skip
       apply G.blk
       refine G.rg tab_ok ok_specIsNetwork (hk := ?_)
       refine G.cn [1, 7, 8, 9, 51, 52, 53] [0, 1] (h := ?_)
       exact G.upto (hJ (k + 1) ⟨by omega, up_step hall (by omega)⟩ (by omega)) (by simp)
     ·try simp only [zqz] at h7
      refine G.exit rfl ?_
      apply G.seq
      refine G.rg tab_ok ok_specIsNetwork (hk := ?_)
      apply G.block
      have hins : ∀ m < (ps.getD i default).i.toNat, 0 ≤ onlyAt (isTo i m) ks := fun m hm => hall m (by omega)
      clear hJ hall hk hwk
      refine G.cn [1, 7, 8, 10, 51, 52, 53] [0, 1] (h := ?_)
      refine G.loopX (fun k : Nat => ⟨[(1, .ptr 0 0 0), (7, .int .i64 i), (8, .ptr 1 0 0), (10, .int .i64 k), (51, .row false 3 (ps.map pv)), (52, .int .i64 ps.length), (53, .int .i64 i)], [some (2, [[.row false 3 (ps.map pv), .row false 5 (ks.map kv)]]), some (3, [[.int .i64 (ps.getD i default).i, .int .i64 (ps.getD i default).o, .row false 4 ((ps.getD i default).l.map insv)]])], 81⟩) (fun k => k ≤ (ps.getD i default).o.toNat ∧ ∀ m < k, 0 ≤ onlyAt (isFr i m) ks) (fun k => (ps.getD i default).o.toNat - k) (0) (⟨Nat.zero_le _, by omega⟩) (by simp) ?_
      intro k hk J hJ
      obtain ⟨hk, hall⟩ := hk
      have hwk : IntKind.i64.wrap ((k : Int) + 1) = (k : Int) + 1 := wrap64 (by omega) (by omega)
      apply G.seq
      apply G.seq
      refine G.rg tab_ok ok_specIsNetwork (hk := ?_)
      refine G.iff (h1 := fun h9 => ?_) (h2 := fun h9 => ?_)
      ·try simp only [zqz] at h9
       apply G.skip
       apply G.seq
       apply G.block
       apply G.seq
       refine G.rg tab_ok ok_specIsNetwork (hk := ?_)
       refine G.fg [1, 7, 8, 10, 51, 52, 53, 79] (hk := ?_)
       refine G.iff (h1 := fun h10 => ?_) (h2 := fun h10 => ?_)
       ·try simp only [zqz] at h10
        apply G.seq
        refine G.rg tab_ok ok_specIsNetwork (hk := ?_)
        refine G.fin tab_ok (hr := ?_)
        simp only [oneOrTup]
        congr 1
        exact (netOk_out h6 h9 h10).symm
       ·try simp only [zqz] at h10
        apply G.skip
        apply G.blk
        refine G.rg tab_ok ok_specIsNetwork (hk := ?_)
        refine G.cn [1, 7, 8, 10, 51, 52, 53] [0, 1] (h := ?_)
        exact G.upto (hJ (k + 1) ⟨by omega, up_step hall (by omega)⟩ (by omega)) (by simp)
      ·try simp only [zqz] at h9
       refine G.exit rfl ?_
       apply G.blk
       refine G.rg tab_ok ok_specIsNetwork (hk := ?_)
       refine G.cn [1, 51, 52, 53] [0] (h := ?_)
       exact G.upto (hJ2 (i + 1) ⟨by omega, up_step hpo (portsOk_of (fun k hk => hins k (by omega)) (fun k hk => hall k (by omega)))⟩ (by omega)) (by simp)
    ·try simp only [zqz] at h6
     refine G.exit rfl ?_
     apply G.seq
     refine G.rg tab_ok ok_specIsNetwork (hk := ?_)
     refine G.fin tab_ok (hr := ?_)
     simp only [oneOrTup]
     congr 1
     exact (netOk_yes hs12 hpa hla (fun q hq => hpo q (by omega))).symm
def r_specIsNetwork (xs0 : List A) (rr : A) : Prop := ∃ (ps : List PG) (ks : List LK), (NW ps) ∧ (KW ks) ∧ (ps.length < 3518437208781) ∧ (ks.length < 2513169434844) ∧ xs0 = [.agg [.row false 3 (ps.map pv), .row false 5 (ks.map kv)]] ∧ rr = .bool (netOk ps ks)
noncomputable def q_specIsNetwork : List A → Option A := kgr r_specIsNetwork
theorem k_specIsNetwork : KOk Try.prog (72, q_specIsNetwork) := kgr_ok (enters_of Try.func72 rfl rfl) (by rintro xs0 rr ⟨ps, ks, hc1, hc2, hc3, hc4, rfl, rfl⟩; exact specIsNetwork_ac ps ks hc1 hc2 hc3 hc4)
theorem e_specIsNetwork : ∀ (ps : List PG) (ks : List LK), (NW ps) → (KW ks) → (ps.length < 3518437208781) → (ks.length < 2513169434844) → q_specIsNetwork [.agg [.row false 3 (ps.map pv), .row false 5 (ks.map kv)]] = some (.bool (netOk ps ks)) := by
 intro ps ks hc1 hc2 hc3 hc4
 refine kgr_eq (fun xs0 rr r2 h h2 => ?_) ⟨ps, ks, hc1, hc2, hc3, hc4, rfl, rfl⟩
 obtain ⟨ps1, ks1, _, _, _, _, e1, rfl⟩ := h; obtain ⟨ps2, ks2, _, _, _, _, e2, rfl⟩ := h2
 rw [e1] at e2
 simp only [List.cons.injEq, A.int.injEq, A.bool.injEq, A.agg.injEq, A.row.injEq, pv_inj, kv_inj, true_and, and_true] at e2
 obtain ⟨e3, e4⟩ := e2
 subst e3 e4
 rfl
end Go.Proofs.Ytimgfinlbhodhaa.Ab
