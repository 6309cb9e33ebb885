/- Walks of functions of the program, and the plain definitions. -/
import Derived.Test.YtdcjlemkegifjaaGreatFwGd
namespace Go.Proofs.YtdcjlemkegifjaaGreat.Ab
open Go
set_option linter.unusedVariables false
set_option linter.unusedSimpArgs false
set_option maxHeartbeats 4000000
theorem l3To_ac (ps : List PG) (ks : List LK) (p : Int) (q : Int) (hc1 : KW ks) (hc2 : ks.length < 2513169434844) : AC Tryz.prog 74 [.agg [.row false 3 (ps.map pv), .row false 5 (ks.map kv)], .int .i64 p, .int .i64 q] (.int .i64 (onlyAt (isTo p q) ks)) := by
 refine AC.of tab_ok Tryz.func74 rfl (Nat.le_of_ble_eq_true rfl) fun w0 S0 => ?_
 change G _ _ ⟨[(0, .agg [.row false 3 (ps.map pv), .row false 5 (ks.map kv)]), (1, .int .i64 p), (2, .int .i64 q)], [], 33⟩
 apply G.seq
 refine G.rg tab_ok (kof_nil _) (hk := ?_)
 apply G.seq
 refine G.rg tab_ok (kof_nil _) (hk := ?_)
 apply G.seq
 apply G.seq
 refine G.rg tab_ok (kof_nil _) (hk := ?_)
 apply G.block
 refine G.cn [1, 2, 7, 11, 12, 13] [] (h := ?_)
 refine G.loopX (fun x : Nat × Int => ⟨[(1, .int .i64 p), (2, .int .i64 q), (7, .int .i64 x.2), (11, .row false 5 (ks.map kv)), (12, .int .i64 ks.length), (13, .int .i64 x.1)], [], 33⟩) (fun x => x.1 ≤ ks.length ∧ onlyUp (isTo p q) ks x.1 x.2) (fun x => ks.length - x.1) ((0, -1)) (⟨Nat.zero_le _, onlyUp_zero⟩) (by simp) ?_
 intro x hx J2 hJ
 obtain ⟨j, a⟩ := x
 simp only at hx ⊢
 obtain ⟨hj, hu⟩ := hx
 have hw : IntKind.i64.wrap ((j : Int) + 1) = (j : Int) + 1 := wrap64 (by omega) (by omega)
 apply G.seq
 refine G.rg tab_ok (kof_nil _) (hk := ?_)
 apply G.seq
 refine G.iff (h1 := fun h1 => ?_) (h2 := fun h1 => ?_)
 ·try simp only [zqz] at h1
  apply G.skip
  apply G.seq
  apply G.block
  apply G.seq
  refine G.rg tab_ok (kof_nil _) (hk := ?_)
  apply G.seq
  refine G.rg tab_ok (kof_nil _) (hk := ?_)
  refine G.fg [1, 2, 7, 8, 11, 12, 13, 27] (hk := ?_)
  refine G.iff (h1 := fun h2 => ?_) (h2 := fun h2 => ?_)
  ·try simp only [zqz] at h2
   apply G.seq
   apply G.seq
   refine G.rg tab_ok (kof_nil _) (hk := ?_)
   refine G.iff (h1 := fun h3 => ?_) (h2 := fun h3 => ?_)
   ·try simp only [zqz] at h3
    apply G.seq
    refine G.rg tab_ok (kof_nil _) (hk := ?_)
    refine G.fin tab_ok (hr := ?_)
    simp only [oneOrTup]
    congr 1
    symm
    exact onlyUp_two hu (by omega) h1 (by simp only [isTo, Bool.and_eq_true, beq_iff_eq]; exact ⟨h2.1, h2.2⟩)
   ·try simp only [zqz] at h3
    apply G.skip
    refine G.rg tab_ok (kof_nil _) (hk := ?_)
    apply G.blk
    refine G.rg tab_ok (kof_nil _) (hk := ?_)
    refine G.cn [1, 2, 7, 11, 12, 13] [] (h := ?_)
    first
    | exact G.upto (hJ (j + 1, (j : Int)) ⟨by simp only; omega, onlyUp_yes hu (by omega) (by simp only [isTo, Bool.and_eq_true, beq_iff_eq]; exact ⟨h2.1, h2.2⟩)⟩ (by simp only; omega)) (by simp)
    | exact G.upto (hJ (j + 1, a) ⟨by simp only; omega, onlyUp_no hu (by rw [Bool.eq_false_iff]; simp only [isTo, ne_eq, Bool.and_eq_true, beq_iff_eq]; exact fun hh => h2 hh.1 hh.2)⟩ (by simp only; omega)) (by simp)
  ·try simp only [zqz] at h2
   apply G.skip
   apply G.blk
   refine G.rg tab_ok (kof_nil _) (hk := ?_)
   refine G.cn [1, 2, 7, 11, 12, 13] [] (h := ?_)
   first
   | exact G.upto (hJ (j + 1, (j : Int)) ⟨by simp only; omega, onlyUp_yes hu (by omega) (by simp only [isTo, Bool.and_eq_true, beq_iff_eq]; exact ⟨h2.1, h2.2⟩)⟩ (by simp only; omega)) (by simp)
   | exact G.upto (hJ (j + 1, a) ⟨by simp only; omega, onlyUp_no hu (by rw [Bool.eq_false_iff]; simp only [isTo, ne_eq, Bool.and_eq_true, beq_iff_eq]; exact fun hh => h2 hh.1 hh.2)⟩ (by simp only; omega)) (by simp)
 ·try simp only [zqz] at h1
  refine G.exit rfl ?_
  apply G.seq
  refine G.rg tab_ok (kof_nil _) (hk := ?_)
  obtain rfl : j = ks.length := by omega
  refine G.fin tab_ok (hr := ?_)
  simp only [oneOrTup]
  congr 1
  exact (onlyUp_end hu).symm
def r_l3To (xs0 : List A) (rr : A) : Prop := ∃ (ps : List PG) (ks : List LK) (p : Int) (q : Int), (KW ks) ∧ (ks.length < 2513169434844) ∧ xs0 = [.agg [.row false 3 (ps.map pv), .row false 5 (ks.map kv)], .int .i64 p, .int .i64 q] ∧ rr = .int .i64 (onlyAt (isTo p q) ks)
noncomputable def q_l3To : List A → Option A := kgr r_l3To
theorem k_l3To : KOk Tryz.prog (74, q_l3To) := kgr_ok (enters_of Tryz.func74 rfl rfl) (by rintro xs0 rr ⟨ps, ks, p, q, hc1, hc2, rfl, rfl⟩; exact l3To_ac ps ks p q hc1 hc2)
theorem e_l3To : ∀ (ps : List PG) (ks : List LK) (p : Int) (q : Int), (KW ks) → (ks.length < 2513169434844) → q_l3To [.agg [.row false 3 (ps.map pv), .row false 5 (ks.map kv)], .int .i64 p, .int .i64 q] = some (.int .i64 (onlyAt (isTo p q) ks)) := by
 intro ps ks p q hc1 hc2
 refine kgr_eq (fun xs0 rr r2 h h2 => ?_) ⟨ps, ks, p, q, hc1, hc2, rfl, rfl⟩
 obtain ⟨ps1, ks1, p1, q1, _, _, e1, rfl⟩ := h; obtain ⟨ps2, ks2, p2, q2, _, _, e2, rfl⟩ := h2
 rw [e1] at e2
 simp only [List.cons.injEq, A.int.injEq, A.agg.injEq, A.row.injEq, pv_inj, kv_inj, true_and, and_true] at e2
 obtain ⟨⟨e3, e4⟩, e5, e6⟩ := e2
 subst e3 e4 e5 e6
 rfl
theorem l3From_ac (ps : List PG) (ks : List LK) (p : Int) (q : Int) (hc1 : KW ks) (hc2 : ks.length < 2513169434844) : AC Tryz.prog 75 [.agg [.row false 3 (ps.map pv), .row false 5 (ks.map kv)], .int .i64 p, .int .i64 q] (.int .i64 (onlyAt (isFr p q) ks)) := by
 refine AC.of tab_ok Tryz.func75 rfl (Nat.le_of_ble_eq_true rfl) fun w0 S0 => ?_
 change G _ _ ⟨[(0, .agg [.row false 3 (ps.map pv), .row false 5 (ks.map kv)]), (1, .int .i64 p), (2, .int .i64 q)], [], 33⟩
 apply G.seq
 refine G.rg tab_ok (kof_nil _) (hk := ?_)
 apply G.seq
 refine G.rg tab_ok (kof_nil _) (hk := ?_)
 apply G.seq
 apply G.seq
 refine G.rg tab_ok (kof_nil _) (hk := ?_)
 apply G.block
 refine G.cn [1, 2, 7, 11, 12, 13] [] (h := ?_)
 refine G.loopX (fun x : Nat × Int => ⟨[(1, .int .i64 p), (2, .int .i64 q), (7, .int .i64 x.2), (11, .row false 5 (ks.map kv)), (12, .int .i64 ks.length), (13, .int .i64 x.1)], [], 33⟩) (fun x => x.1 ≤ ks.length ∧ onlyUp (isFr p q) ks x.1 x.2) (fun x => ks.length - x.1) ((0, -1)) (⟨Nat.zero_le _, onlyUp_zero⟩) (by simp) ?_
 intro x hx J2 hJ
 obtain ⟨j, a⟩ := x
 simp only at hx ⊢
 obtain ⟨hj, hu⟩ := hx
 have hw : IntKind.i64.wrap ((j : Int) + 1) = (j : Int) + 1 := wrap64 (by omega) (by omega)
 apply G.seq
 refine G.rg tab_ok (kof_nil _) (hk := ?_)
 apply G.seq
 refine G.iff (h1 := fun h1 => ?_) (h2 := fun h1 => ?_)
 ·try simp only [zqz] at h1
  apply G.skip
  apply G.seq
  apply G.block
  apply G.seq
  refine G.rg tab_ok (kof_nil _) (hk := ?_)
  apply G.seq
  refine G.rg tab_ok (kof_nil _) (hk := ?_)
  refine G.fg [1, 2, 7, 8, 11, 12, 13, 27] (hk := ?_)
  refine G.iff (h1 := fun h2 => ?_) (h2 := fun h2 => ?_)
  ·try simp only [zqz] at h2
   apply G.seq
   apply G.seq
   refine G.rg tab_ok (kof_nil _) (hk := ?_)
   refine G.iff (h1 := fun h3 => ?_) (h2 := fun h3 => ?_)
   ·try simp only [zqz] at h3
    apply G.seq
    refine G.rg tab_ok (kof_nil _) (hk := ?_)
    refine G.fin tab_ok (hr := ?_)
    simp only [oneOrTup]
    congr 1
    symm
    exact onlyUp_two hu (by omega) h1 (by simp only [isFr, Bool.and_eq_true, beq_iff_eq]; exact ⟨h2.1, h2.2⟩)
   ·try simp only [zqz] at h3
    apply G.skip
    refine G.rg tab_ok (kof_nil _) (hk := ?_)
    apply G.blk
    refine G.rg tab_ok (kof_nil _) (hk := ?_)
    refine G.cn [1, 2, 7, 11, 12, 13] [] (h := ?_)
    first
    | exact G.upto (hJ (j + 1, (j : Int)) ⟨by simp only; omega, onlyUp_yes hu (by omega) (by simp only [isFr, Bool.and_eq_true, beq_iff_eq]; exact ⟨h2.1, h2.2⟩)⟩ (by simp only; omega)) (by simp)
    | exact G.upto (hJ (j + 1, a) ⟨by simp only; omega, onlyUp_no hu (by rw [Bool.eq_false_iff]; simp only [isFr, ne_eq, Bool.and_eq_true, beq_iff_eq]; exact fun hh => h2 hh.1 hh.2)⟩ (by simp only; omega)) (by simp)
  ·try simp only [zqz] at h2
   apply G.skip
   apply G.blk
   refine G.rg tab_ok (kof_nil _) (hk := ?_)
   refine G.cn [1, 2, 7, 11, 12, 13] [] (h := ?_)
   first
   | exact G.upto (hJ (j + 1, (j : Int)) ⟨by simp only; omega, onlyUp_yes hu (by omega) (by simp only [isFr, Bool.and_eq_true, beq_iff_eq]; exact ⟨h2.1, h2.2⟩)⟩ (by simp only; omega)) (by simp)
   | exact G.upto (hJ (j + 1, a) ⟨by simp only; omega, onlyUp_no hu (by rw [Bool.eq_false_iff]; simp only [isFr, ne_eq, Bool.and_eq_true, beq_iff_eq]; exact fun hh => h2 hh.1 hh.2)⟩ (by simp only; omega)) (by simp)
 ·try simp only [zqz] at h1
  refine G.exit rfl ?_
  apply G.seq
  refine G.rg tab_ok (kof_nil _) (hk := ?_)
  obtain rfl : j = ks.length := by omega
  refine G.fin tab_ok (hr := ?_)
  simp only [oneOrTup]
  congr 1
  exact (onlyUp_end hu).symm
def r_l3From (xs0 : List A) (rr : A) : Prop := ∃ (ps : List PG) (ks : List LK) (p : Int) (q : Int), (KW ks) ∧ (ks.length < 2513169434844) ∧ xs0 = [.agg [.row false 3 (ps.map pv), .row false 5 (ks.map kv)], .int .i64 p, .int .i64 q] ∧ rr = .int .i64 (onlyAt (isFr p q) ks)
noncomputable def q_l3From : List A → Option A := kgr r_l3From
theorem k_l3From : KOk Tryz.prog (75, q_l3From) := kgr_ok (enters_of Tryz.func75 rfl rfl) (by rintro xs0 rr ⟨ps, ks, p, q, hc1, hc2, rfl, rfl⟩; exact l3From_ac ps ks p q hc1 hc2)
theorem e_l3From : ∀ (ps : List PG) (ks : List LK) (p : Int) (q : Int), (KW ks) → (ks.length < 2513169434844) → q_l3From [.agg [.row false 3 (ps.map pv), .row false 5 (ks.map kv)], .int .i64 p, .int .i64 q] = some (.int .i64 (onlyAt (isFr p q) ks)) := by
 intro ps ks p q hc1 hc2
 refine kgr_eq (fun xs0 rr r2 h h2 => ?_) ⟨ps, ks, p, q, hc1, hc2, rfl, rfl⟩
 obtain ⟨ps1, ks1, p1, q1, _, _, e1, rfl⟩ := h; obtain ⟨ps2, ks2, p2, q2, _, _, e2, rfl⟩ := h2
 rw [e1] at e2
 simp only [List.cons.injEq, A.int.injEq, A.agg.injEq, A.row.injEq, pv_inj, kv_inj, true_and, and_true] at e2
 obtain ⟨⟨e3, e4⟩, e5, e6⟩ := e2
 subst e3 e4 e5 e6
 rfl
theorem ok_implIsNetwork : Kn.ok Tryz.prog (kof [(95, q_implIsProgram), (80, q_implIsStream)]) := kof_cons k_implIsProgram (kof_cons k_implIsStream ((kof_nil _)))
theorem implIsNetwork_ac (ps : List PG) (ks : List LK) (hc1 : NW ps) (hc2 : KW ks) (hc3 : ps.length < 3518437208781) (hc4 : ks.length < 2513169434844) : AC Tryz.prog 78 [.agg [.row false 3 (ps.map pv), .row false 5 (ks.map kv)]] (.bool (netOk ps ks)) := by
 have e_implIsProgram := e_implIsProgram
 have e_implIsStream := e_implIsStream
 have hft : (false == true) = false := rfl
 have htf : (true == false) = false := rfl
 refine AC.of tab_ok Tryz.func78 rfl (Nat.le_of_ble_eq_true rfl) fun w0 S0 => ?_
 change G _ _ ⟨[(0, .agg [.row false 3 (ps.map pv), .row false 5 (ks.map kv)])], [], 189⟩
 apply G.seq
 refine G.rg tab_ok ok_implIsNetwork (hk := ?_)
 apply G.seq
 apply G.seq
 refine G.rg tab_ok ok_implIsNetwork (hk := ?_)
 refine G.fg [1, 22, 49, 50, 51, 52, 53, 54, 55, 56, 57, 58, 59, 60, 61, 62, 63, 64, 65, 66, 67, 68, 69, 70, 71, 72, 73, 74, 75, 76, 77, 78, 79, 80, 81, 82, 83, 84, 85, 86, 87, 88, 89, 90, 91, 97, 98, 99, 100, 101, 102, 103, 104, 105, 106, 107, 108, 109, 110, 111, 112, 113, 114, 115, 116, 117, 118, 119, 120, 121, 122, 123] (hk := ?_)
 refine G.iff (h1 := fun h1 => ?_) (h2 := fun h1 => ?_)
 ·try simp only [zqz] at h1
  apply G.seq
  refine G.rg tab_ok ok_implIsNetwork (hk := ?_)
  refine G.fin tab_ok (hr := ?_)
  simp only [oneOrTup]
  congr 1
  rw [← netI_eq]
  exact (netI_small h1).symm
 ·try simp only [zqz] at h1
  apply G.skip
  apply G.seq
  refine G.rg tab_ok ok_implIsNetwork (hk := ?_)
  apply G.seq
  apply G.seq
  refine G.rg tab_ok ok_implIsNetwork (hk := ?_)
  apply G.block
  have hs12 : netSmall ps ks = true := small_yes (by omega)
  refine G.cn [1, 3, 24, 25, 26] [0] (h := ?_)
  refine G.loopX (fun j : Nat => ⟨[(1, .ptr 0 0 0), (3, .int .i64 (gtot portN (ps.take j) : Nat)), (24, .row false 3 (ps.map pv)), (25, .int .i64 ps.length), (26, .int .i64 j)], [some (2, [[.row false 3 (ps.map pv), .row false 5 (ks.map kv)]])], 189⟩) (fun j => j ≤ ps.length ∧ (∀ k < j, pgOk (ps.getD k default) = true) ∧ gtot portN (ps.take j) ≤ 6 * j) (fun j => ps.length - j) (0) (⟨Nat.zero_le _, by omega, by simp [gtot_nil]⟩) (by simp [gtot_nil]) ?_
  intro j hj J hJ
  obtain ⟨hj, hall, hpt⟩ := hj
  have hw : IntKind.i64.wrap ((j : Int) + 1) = (j : Int) + 1 := wrap64 (by omega) (by omega)
  apply G.seq
  refine G.rg tab_ok ok_implIsNetwork (hk := ?_)
  apply G.seq
  refine G.iff (h1 := fun h2 => ?_) (h2 := fun h2 => ?_)
  ·try simp only [zqz] at h2
   apply G.skip
   apply G.seq
   apply G.block
   apply G.seq
   refine G.rg tab_ok ok_implIsNetwork (hk := ?_)
   apply G.seq
   apply G.seq
   have hlr : (ps.getD j default).l.length < 4398046511104 := hc1 _ (getD_mem0 h2)
   refine G.rg tab_ok ok_implIsNetwork (hk := ?_)
   refine G.iff (h1 := fun h3 => ?_) (h2 := fun h3 => ?_)
   ·try simp only [zqz] at h3
    apply G.seq
    refine G.rg tab_ok ok_implIsNetwork (hk := ?_)
    refine G.fin tab_ok (hr := ?_)
    simp only [oneOrTup]
    congr 1
    rw [← netI_eq]
    exact (netI_pg h2 h3).symm
   ·try simp only [zqz] at h3
    apply G.skip
    obtain ⟨⟨bi0, bi3⟩, ⟨bo0, bo3⟩, _⟩ := pg_one (p := ps.getD j default) h3
    have hw1 : IntKind.i64.wrap ((ps.getD j default).i + (ps.getD j default).o) = (ps.getD j default).i + (ps.getD j default).o := wrap64 (by omega) (by omega)
    have hw2 : IntKind.i64.wrap ((gtot portN (ps.take j) : Int) + ((ps.getD j default).i + (ps.getD j default).o)) = (gtot portN (ps.take j) : Int) + ((ps.getD j default).i + (ps.getD j default).o) := wrap64 (by omega) (by omega)
    refine G.rg tab_ok ok_implIsNetwork (hk := ?_)
    apply G.blk
    refine G.rg tab_ok ok_implIsNetwork (hk := ?_)
    refine G.cn [1, 3, 24, 25, 26] [0] (h := ?_)
    have hps := gtot_succ (f := portN) h2
    have hpn : portN (ps.getD j default) = (ps.getD j default).i.toNat + (ps.getD j default).o.toNat := rfl
    rw [hpn] at hps
    have hpv : (gtot portN (ps.take j) : Int) + ((ps.getD j default).i + (ps.getD j default).o) = ((gtot portN (ps.take (j + 1)) : Nat) : Int) := by omega
    exact G.upto (hJ (j + 1) ⟨by omega, gupto (p := pgOk) hall h3, by omega⟩ (by omega)) (by rw [hpv]; simp)
  ·try simp only [zqz] at h2
   refine G.exit rfl ?_
   apply G.seq
   refine G.rg tab_ok ok_implIsNetwork (hk := ?_)
   apply G.seq
   apply G.seq
   refine G.rg tab_ok ok_implIsNetwork (hk := ?_)
   apply G.block
   have hpa : ps.all pgOk = true := gall (p := pgOk) (fun k hk => hall k (by omega))
   obtain rfl : j = ps.length := by omega
   rw [List.take_length] at hpt ⊢
   clear hJ hall hj
   refine G.cn [1, 3, 6, 42, 43, 44] [0] (h := ?_)
   refine G.loopX (fun j : Nat => ⟨[(1, .ptr 0 0 0), (3, .int .i64 (gtot portN ps : Nat)), (6, .int .i64 (gtot endN (ks.take j) : Nat)), (42, .row false 5 (ks.map kv)), (43, .int .i64 ks.length), (44, .int .i64 j)], [some (2, [[.row false 3 (ps.map pv), .row false 5 (ks.map kv)]])], 189⟩) (fun j => j ≤ ks.length ∧ ∀ k < j, goodAt ps ks k = true) (fun j => ks.length - j) (0) (⟨Nat.zero_le _, by omega⟩) (by simp [gtot_nil]) ?_
   intro j hj J2 hJ2
   obtain ⟨hj, hall⟩ := hj
   obtain ⟨x, hx⟩ : ∃ x, ks.getD j default = x := ⟨_, rfl⟩
   have hen := endsN_le ks j hj
   have hw : IntKind.i64.wrap ((j : Int) + 1) = (j : Int) + 1 := wrap64 (by omega) (by omega)
   apply G.seq
   refine G.rg tab_ok ok_implIsNetwork (hk := ?_)
   apply G.seq
   refine G.iff (h1 := fun h4 => ?_) (h2 := fun h4 => ?_)
   ·try simp only [zqz] at h4
    apply G.skip
    apply G.seq
    apply G.block
    apply G.seq
    have hjk : j < ks.length := by omega
    have hlr : x.tk.length < 17592186044416 := by rw [← hx]; exact hc2 _ (getD_mem0 hjk)
    refine G.rg tab_ok ok_implIsNetwork (hk := ?_)
    apply G.seq
    apply G.viaX (st' := ⟨[(1, .ptr 0 0 0), (3, .int .i64 (gtot portN ps : Nat)), (6, .int .i64 (gtot endN (ks.take j) : Nat)), (7, .int .i64 j), (8, .ptr 1 0 0), (9, .bool (x.fr == -1 && x.ou == 0)), (10, .bool (x.to == -1 && x.ip == 0)), (42, .row false 5 (ks.map kv)), (43, .int .i64 ks.length), (44, .int .i64 j)], [some (2, [[.row false 3 (ps.map pv), .row false 5 (ks.map kv)]]), some (5, [[.int .i64 x.fr, .int .i64 x.ou, .int .i64 x.to, .int .i64 x.ip, .row false 1 (x.tk.map iv)]])], 189⟩)
    ·intro hvia15
     rcases (show (x.fr = -1 ∧ x.to = -1) ∨ (x.fr = -1 ∧ ¬ x.to = -1) ∨ (¬ x.fr = -1 ∧ x.to = -1) ∨ (¬ x.fr = -1 ∧ ¬ x.to = -1) by omega) with ⟨c1, c2⟩ | ⟨c1, c2⟩ | ⟨c1, c2⟩ | ⟨c1, c2⟩
     ·skip
      have d1 : (x.fr == -1) = true := by rw [beq_iff_eq]; exact c1
      have d2 : (x.to == -1) = true := by rw [beq_iff_eq]; exact c2
      clear c1 c2
      refine G.dr mixed tab_ok ok_implIsNetwork [0, 1, 2, 3, 4, 5, 6, 7, 8, 9, 10, 11, 12, 13, 14, 15, 16, 17] (hk := ?_)
      refine G.fg [1, 3, 6, 7, 8, 9, 10, 42, 43, 44] (hk := ?_)
      refine G.meet hvia15 ?_
      simp [d1, d2]
     ·skip
      have d1 : (x.fr == -1) = true := by rw [beq_iff_eq]; exact c1
      have d2 : (x.to == -1) = false := by rw [beq_eq_false_iff_ne]; exact c2
      clear c1 c2
      refine G.dr mixed tab_ok ok_implIsNetwork [0, 1, 2, 3, 4, 5, 6, 7, 8, 9, 10, 11, 12, 13, 14, 15, 16, 17] (hk := ?_)
      refine G.fg [1, 3, 6, 7, 8, 9, 10, 42, 43, 44] (hk := ?_)
      refine G.meet hvia15 ?_
      simp [d1, d2]
     ·skip
      have d1 : (x.fr == -1) = false := by rw [beq_eq_false_iff_ne]; exact c1
      have d2 : (x.to == -1) = true := by rw [beq_iff_eq]; exact c2
      clear c1 c2
      refine G.dr mixed tab_ok ok_implIsNetwork [0, 1, 2, 3, 4, 5, 6, 7, 8, 9, 10, 11, 12, 13, 14, 15, 16, 17] (hk := ?_)
      refine G.fg [1, 3, 6, 7, 8, 9, 10, 42, 43, 44] (hk := ?_)
      refine G.meet hvia15 ?_
      simp [d1, d2]
     ·skip
      have d1 : (x.fr == -1) = false := by rw [beq_eq_false_iff_ne]; exact c1
      have d2 : (x.to == -1) = false := by rw [beq_eq_false_iff_ne]; exact c2
      clear c1 c2
      refine G.dr mixed tab_ok ok_implIsNetwork [0, 1, 2, 3, 4, 5, 6, 7, 8, 9, 10, 11, 12, 13, 14, 15, 16, 17] (hk := ?_)
      refine G.fg [1, 3, 6, 7, 8, 9, 10, 42, 43, 44] (hk := ?_)
      refine G.meet hvia15 ?_
      simp [d1, d2]
    ·skip
     apply G.seq
     apply G.seq
     apply G.viaP (Q := frIn ps x ∨ frOut x) (st' := ⟨[(1, .ptr 0 0 0), (3, .int .i64 (gtot portN ps : Nat)), (6, .int .i64 ((gtot endN (ks.take j) : Int) + (if x.fr ≥ 0 then 1 else 0))), (7, .int .i64 j), (8, .ptr 1 0 0), (9, .bool (x.fr == -1 && x.ou == 0)), (10, .bool (x.to == -1 && x.ip == 0)), (42, .row false 5 (ks.map kv)), (43, .int .i64 ks.length), (44, .int .i64 j)], [some (2, [[.row false 3 (ps.map pv), .row false 5 (ks.map kv)]]), some (5, [[.int .i64 x.fr, .int .i64 x.ou, .int .i64 x.to, .int .i64 x.ip, .row false 1 (x.tk.map iv)]])], 189⟩)
     ·intro hvia16
      rcases fr_cases ps x with c1 | ⟨c1, c2⟩ | ⟨c1, c2, c3⟩ | ⟨c1, c2, c3, c4⟩ | ⟨c1, c2, c3, c4⟩
      ·skip
       have c0 : ¬ x.fr ≥ 0 := by omega
       refine G.dr mixed tab_ok ok_implIsNetwork [0, 1, 2, 3, 4, 5, 6, 7, 8, 9, 10, 11, 12, 13, 14, 15, 16, 17, 18, 19, 20, 21, 22, 23, 24, 25, 26, 27] (hk := ?_)
       refine G.iffF (h2 := ?_)
       apply G.seq
       refine G.rg tab_ok ok_implIsNetwork (hk := ?_)
       refine G.fg [1, 3, 6, 7, 8, 9, 10, 42, 43, 44, 96] (hk := ?_)
       refine G.iff (h1 := fun h6 => ?_) (h2 := fun h6 => ?_)
       ·try simp only [zqz] at h6
        apply G.seq
        refine G.rg tab_ok ok_implIsNetwork (hk := ?_)
        refine G.fin tab_ok (hr := ?_)
        simp only [oneOrTup]
        congr 1
        symm
        rw [← netI_eq]
        exact netI_lk hjk (good_ends (by rw [hx]; exact ends_noF (fun h => c0 h.1) (fun h => by have h1 := h.1; have h2 := h.2; omega)))
       ·try simp only [zqz] at h6
        apply G.skip
        refine G.fg [1, 3, 6, 7, 8, 9, 10, 42, 43, 44] (hk := ?_)
        refine G.meet (hvia16 (.inr h6)) ?_
        rw [if_neg c0, Int.add_zero]
      ·skip
       have c0 : x.fr ≥ 0 := c1
       have cq : (x.fr == -1) = false := by rw [beq_eq_false_iff_ne]; omega
       refine G.dr mixed tab_ok ok_implIsNetwork [0, 1, 2, 3, 4, 5, 6, 7, 8, 9, 10, 11, 12, 13, 14, 15, 16, 17, 18, 19, 20, 21, 22, 23, 24, 25, 26, 27] (hk := ?_)
       refine G.iffF (h2 := ?_)
       apply G.seq
       refine G.rg tab_ok ok_implIsNetwork (hk := ?_)
       refine G.iffT (h1 := ?_)
       apply G.seq
       refine G.rg tab_ok ok_implIsNetwork (hk := ?_)
       refine G.fin tab_ok (hr := ?_)
       simp only [oneOrTup]
       congr 1
       symm
       rw [← netI_eq]
       exact netI_lk hjk (good_ends (by rw [hx]; exact ends_noF (fun h => c2 h.2.1) (fun h => by have := h.1; omega)))
      ·skip
       have c0 : x.fr ≥ 0 := c1
       have c03 : ¬ x.ou ≥ 0 := c3
       have cq : (x.fr == -1) = false := by rw [beq_eq_false_iff_ne]; omega
       refine G.dr mixed tab_ok ok_implIsNetwork [0, 1, 2, 3, 4, 5, 6, 7, 8, 9, 10, 11, 12, 13, 14, 15, 16, 17, 18, 19, 20, 21, 22, 23, 24, 25, 26, 27] (hk := ?_)
       refine G.iffF (h2 := ?_)
       apply G.seq
       refine G.rg tab_ok ok_implIsNetwork (hk := ?_)
       refine G.iffT (h1 := ?_)
       apply G.seq
       refine G.rg tab_ok ok_implIsNetwork (hk := ?_)
       refine G.fin tab_ok (hr := ?_)
       simp only [oneOrTup]
       congr 1
       symm
       rw [← netI_eq]
       exact netI_lk hjk (good_ends (by rw [hx]; exact ends_noF (fun h => c3 h.2.2.1) (fun h => by have := h.1; omega)))
      ·skip
       have c0 : x.fr ≥ 0 := c1
       have c03 : x.ou ≥ 0 := c3
       have c5 : x.fr.toNat < ps.length := by omega
       have cq : (x.fr == -1) = false := by rw [beq_eq_false_iff_ne]; omega
       refine G.dr mixed tab_ok ok_implIsNetwork [0, 1, 2, 3, 4, 5, 6, 7, 8, 9, 10, 11, 12, 13, 14, 15, 16, 17, 18, 19, 20, 21, 22, 23, 24, 25, 26, 27] (hk := ?_)
       refine G.iffF (h2 := ?_)
       apply G.seq
       refine G.rg tab_ok ok_implIsNetwork (hk := ?_)
       refine G.iffT (h1 := ?_)
       apply G.seq
       refine G.rg tab_ok ok_implIsNetwork (hk := ?_)
       refine G.fin tab_ok (hr := ?_)
       simp only [oneOrTup]
       congr 1
       symm
       rw [← netI_eq]
       exact netI_lk hjk (good_ends (by rw [hx]; exact ends_noF (fun h => c4 h.2.2.2) (fun h => by have := h.1; omega)))
      ·skip
       have c0 : x.fr ≥ 0 := c1
       have c03 : x.ou ≥ 0 := c3
       have c5 : x.fr.toNat < ps.length := by omega
       have hw6 : IntKind.i64.wrap ((gtot endN (ks.take j) : Int) + 1) = (gtot endN (ks.take j) : Int) + 1 := wrap64 (by omega) (by omega)
       refine G.dr mixed tab_ok ok_implIsNetwork [0, 1, 2, 3, 4, 5, 6, 7, 8, 9, 10, 11, 12, 13, 14, 15, 16, 17, 18, 19, 20, 21, 22, 23, 24, 25, 26, 27] (hk := ?_)
       refine G.iffT (h1 := ?_)
       refine G.rg tab_ok ok_implIsNetwork (hk := ?_)
       refine G.fg [1, 3, 6, 7, 8, 9, 10, 42, 43, 44] (hk := ?_)
       refine G.meet (hvia16 (.inl ⟨c1, c2, c3, c4⟩)) ?_
       simp [c0]
     ·intro hQ1
      apply G.seq
      apply G.seq
      apply G.viaP (Q := toIn ps x ∨ toOut x) (st' := ⟨[(1, .ptr 0 0 0), (3, .int .i64 (gtot portN ps : Nat)), (6, .int .i64 ((gtot endN (ks.take j) : Int) + (if x.fr ≥ 0 then 1 else 0) + (if x.to ≥ 0 then 1 else 0))), (7, .int .i64 j), (8, .ptr 1 0 0), (9, .bool (x.fr == -1 && x.ou == 0)), (10, .bool (x.to == -1 && x.ip == 0)), (42, .row false 5 (ks.map kv)), (43, .int .i64 ks.length), (44, .int .i64 j)], [some (2, [[.row false 3 (ps.map pv), .row false 5 (ks.map kv)]]), some (5, [[.int .i64 x.fr, .int .i64 x.ou, .int .i64 x.to, .int .i64 x.ip, .row false 1 (x.tk.map iv)]])], 189⟩)
      ·intro hvia20
       rcases to_cases ps x with c1 | ⟨c1, c2⟩ | ⟨c1, c2, c3⟩ | ⟨c1, c2, c3, c4⟩ | ⟨c1, c2, c3, c4⟩
       ·skip
        have c0 : ¬ x.to ≥ 0 := by omega
        refine G.dr mixed tab_ok ok_implIsNetwork [0, 1, 2, 3, 4, 5, 6, 7, 8, 9, 10, 11, 12, 13, 14, 15, 16, 17, 18, 19, 20, 21, 22, 23, 24, 25, 26, 27] (hk := ?_)
        refine G.iffF (h2 := ?_)
        apply G.seq
        refine G.rg tab_ok ok_implIsNetwork (hk := ?_)
        refine G.fg [1, 3, 6, 7, 8, 9, 10, 42, 43, 44, 128] (hk := ?_)
        refine G.iff (h1 := fun h15 => ?_) (h2 := fun h15 => ?_)
        ·try simp only [zqz] at h15
         apply G.seq
         refine G.rg tab_ok ok_implIsNetwork (hk := ?_)
         refine G.fin tab_ok (hr := ?_)
         simp only [oneOrTup]
         congr 1
         symm
         rw [← netI_eq]
         exact netI_lk hjk (good_ends (by rw [hx]; exact ends_noT (fun h => c0 h.1) (fun h => by have h1 := h.1; have h2 := h.2; omega)))
        ·try simp only [zqz] at h15
         apply G.skip
         refine G.fg [1, 3, 6, 7, 8, 9, 10, 42, 43, 44] (hk := ?_)
         refine G.meet (hvia20 (.inr h15)) ?_
         rw [if_neg c0, Int.add_zero]
       ·skip
        have c0 : x.to ≥ 0 := c1
        have cq : (x.to == -1) = false := by rw [beq_eq_false_iff_ne]; omega
        refine G.dr mixed tab_ok ok_implIsNetwork [0, 1, 2, 3, 4, 5, 6, 7, 8, 9, 10, 11, 12, 13, 14, 15, 16, 17, 18, 19, 20, 21, 22, 23, 24, 25, 26, 27] (hk := ?_)
        refine G.iffF (h2 := ?_)
        apply G.seq
        refine G.rg tab_ok ok_implIsNetwork (hk := ?_)
        refine G.iffT (h1 := ?_)
        apply G.seq
        refine G.rg tab_ok ok_implIsNetwork (hk := ?_)
        refine G.fin tab_ok (hr := ?_)
        simp only [oneOrTup]
        congr 1
        symm
        rw [← netI_eq]
        exact netI_lk hjk (good_ends (by rw [hx]; exact ends_noT (fun h => c2 h.2.1) (fun h => by have := h.1; omega)))
       ·skip
        have c0 : x.to ≥ 0 := c1
        have c03 : ¬ x.ip ≥ 0 := c3
        have cq : (x.to == -1) = false := by rw [beq_eq_false_iff_ne]; omega
        refine G.dr mixed tab_ok ok_implIsNetwork [0, 1, 2, 3, 4, 5, 6, 7, 8, 9, 10, 11, 12, 13, 14, 15, 16, 17, 18, 19, 20, 21, 22, 23, 24, 25, 26, 27] (hk := ?_)
        refine G.iffF (h2 := ?_)
        apply G.seq
        refine G.rg tab_ok ok_implIsNetwork (hk := ?_)
        refine G.iffT (h1 := ?_)
        apply G.seq
        refine G.rg tab_ok ok_implIsNetwork (hk := ?_)
        refine G.fin tab_ok (hr := ?_)
        simp only [oneOrTup]
        congr 1
        symm
        rw [← netI_eq]
        exact netI_lk hjk (good_ends (by rw [hx]; exact ends_noT (fun h => c3 h.2.2.1) (fun h => by have := h.1; omega)))
       ·skip
        have c0 : x.to ≥ 0 := c1
        have c03 : x.ip ≥ 0 := c3
        have c5 : x.to.toNat < ps.length := by omega
        have cq : (x.to == -1) = false := by rw [beq_eq_false_iff_ne]; omega
        refine G.dr mixed tab_ok ok_implIsNetwork [0, 1, 2, 3, 4, 5, 6, 7, 8, 9, 10, 11, 12, 13, 14, 15, 16, 17, 18, 19, 20, 21, 22, 23, 24, 25, 26, 27] (hk := ?_)
        refine G.iffF (h2 := ?_)
        apply G.seq
        refine G.rg tab_ok ok_implIsNetwork (hk := ?_)
        refine G.iffT (h1 := ?_)
        apply G.seq
        refine G.rg tab_ok ok_implIsNetwork (hk := ?_)
        refine G.fin tab_ok (hr := ?_)
        simp only [oneOrTup]
        congr 1
        symm
        rw [← netI_eq]
        exact netI_lk hjk (good_ends (by rw [hx]; exact ends_noT (fun h => c4 h.2.2.2) (fun h => by have := h.1; omega)))
       ·skip
        have c0 : x.to ≥ 0 := c1
        have c03 : x.ip ≥ 0 := c3
        have c5 : x.to.toNat < ps.length := by omega
        have hw6 : IntKind.i64.wrap ((gtot endN (ks.take j) : Int) + (if x.fr ≥ 0 then 1 else 0) + 1) = (gtot endN (ks.take j) : Int) + (if x.fr ≥ 0 then 1 else 0) + 1 := wrap64 (by omega) (by omega)
        refine G.dr mixed tab_ok ok_implIsNetwork [0, 1, 2, 3, 4, 5, 6, 7, 8, 9, 10, 11, 12, 13, 14, 15, 16, 17, 18, 19, 20, 21, 22, 23, 24, 25, 26, 27] (hk := ?_)
        refine G.iffT (h1 := ?_)
        refine G.rg tab_ok ok_implIsNetwork (hk := ?_)
        refine G.fg [1, 3, 6, 7, 8, 9, 10, 42, 43, 44] (hk := ?_)
        refine G.meet (hvia20 (.inl ⟨c1, c2, c3, c4⟩)) ?_
        simp [c0]
      ·intro hQ2
       apply G.seq
       apply G.seq
       refine G.fg [1, 3, 6, 7, 8, 9, 10, 42, 43, 44] (hk := ?_)
       refine G.rg tab_ok ok_implIsNetwork (hk := ?_)
       refine G.fg [1, 3, 6, 7, 8, 42, 43, 44, 138] (hk := ?_)
       refine G.iff (h1 := fun h23 => ?_) (h2 := fun h23 => ?_)
       ·try simp only [zqz] at h23
        apply G.seq
        refine G.rg tab_ok ok_implIsNetwork (hk := ?_)
        refine G.fin tab_ok (hr := ?_)
        have hb : linkOk ps x = false := by
         rcases h23 with h | h
         ·exact link_no (.inl (by rw [Bool.eq_false_iff]; intro hh; exact (ends_iff.1 hh).2.2 ⟨⟨h.1.1, h.1.2⟩, h.2.1, h.2.2⟩))
         ·exact link_no (.inr h)
        simp only [oneOrTup]
        congr 1
        symm
        rw [← netI_eq]
        exact netI_lk hjk (good_link (by rw [hx]; exact hb))
       ·try simp only [zqz] at h23
        apply G.skip
        apply G.seq
        have hlk : linkOk ps (ks.getD j default) = true := by
         rw [hx]
         refine link_yes (fun h => ?_)
         have he : endsOk ps x = true := ends_iff.2 ⟨hQ1, hQ2, fun hh => h23.1 ⟨hh.1.1, hh.1.2⟩ hh.2.1 hh.2.2⟩
         rw [he, h23.2] at h
         simp at h
        have hmj : min j ks.length = j := by omega
        have htk : List.take j (ks.map kv) = (ks.take j).map kv := (List.map_take ..).symm
        have hgd : ∀ q, q < j → (ks.take j).getD q default = ks.getD q default := fun q hq => by simp [List.getD_eq_getElem?_getD, List.getElem?_take, hq]
        refine G.rg tab_ok ok_implIsNetwork (hk := ?_)
        apply G.block
        refine G.cn [1, 3, 6, 8, 42, 43, 44, 142, 143, 144] [0, 1] (h := ?_)
        refine G.loopX (fun q : Nat => ⟨[(1, .ptr 0 0 0), (3, .int .i64 (gtot portN ps : Nat)), (6, .int .i64 ((gtot endN (ks.take j) : Int) + (if x.fr ≥ 0 then 1 else 0) + (if x.to ≥ 0 then 1 else 0))), (8, .ptr 1 0 0), (42, .row false 5 (ks.map kv)), (43, .int .i64 ks.length), (44, .int .i64 j), (142, .row false 5 ((ks.take j).map kv)), (143, .int .i64 j), (144, .int .i64 q)], [some (2, [[.row false 3 (ps.map pv), .row false 5 (ks.map kv)]]), some (5, [[.int .i64 x.fr, .int .i64 x.ou, .int .i64 x.to, .int .i64 x.ip, .row false 1 (x.tk.map iv)]])], 189⟩) (fun q => q ≤ j ∧ ∀ m < q, clash x (ks.getD m default) = false) (fun q => j - q) (0) (⟨Nat.zero_le _, by omega⟩) (by simp) ?_
        intro q hq J hJ
        obtain ⟨hq, hcl⟩ := hq
        have hwq : IntKind.i64.wrap ((q : Int) + 1) = (q : Int) + 1 := wrap64 (by omega) (by omega)
        apply G.seq
        refine G.rg tab_ok ok_implIsNetwork (hk := ?_)
        apply G.seq
        refine G.iff (h1 := fun h24 => ?_) (h2 := fun h24 => ?_)
        ·try simp only [zqz] at h24
         apply G.skip
         apply G.seq
         apply G.block
         apply G.seq
         obtain ⟨y, hy⟩ : ∃ y, ks.getD q default = y := ⟨_, rfl⟩
         have hgy : (ks.take j).getD q default = y := by rw [hgd q (by omega), hy]
         refine G.rg tab_ok ok_implIsNetwork (hk := ?_)
         apply G.seq
         refine G.rgN 11 tab_ok ok_implIsNetwork (hk := ?_)
         refine G.rgM 7 tab_ok ok_implIsNetwork (hk := ?_)
         refine G.rgM 10 tab_ok ok_implIsNetwork (hk := ?_)
         refine G.rgC tab_ok ok_implIsNetwork (hk := ?_)
         refine G.fg [1, 3, 6, 8, 42, 43, 44, 142, 143, 144, 183] (hk := ?_)
         refine G.iff (h1 := fun h25 => ?_) (h2 := fun h25 => ?_)
         ·try simp only [zqz] at h25
          apply G.seq
          refine G.rg tab_ok ok_implIsNetwork (hk := ?_)
          refine G.fin tab_ok (hr := ?_)
          simp only [oneOrTup]
          congr 1
          symm
          rw [← netI_eq]
          exact netI_lk hjk (good_clash (q := q) (by omega) (clash_yes hx hy h25))
         ·try simp only [zqz] at h25
          apply G.skip
          apply G.blk
          refine G.rg tab_ok ok_implIsNetwork (hk := ?_)
          refine G.cn [1, 3, 6, 8, 42, 43, 44, 142, 143, 144] [0, 1] (h := ?_)
          exact G.upto (hJ (q + 1) ⟨by omega, up_step hcl (clash_no hy h25)⟩ (by omega)) (by simp)
        ·try simp only [zqz] at h24
         refine G.exit rfl ?_
         apply G.blk
         refine G.rg tab_ok ok_implIsNetwork (hk := ?_)
         refine G.cn [1, 3, 6, 42, 43, 44] [0] (h := ?_)
         have hes := gtot_succ (f := endN) hjk
         have hen2 : (endN x : Int) = (if x.fr ≥ 0 then 1 else 0) + (if x.to ≥ 0 then 1 else 0) := by unfold endN; split <;> split <;> rfl
         rw [hx] at hes
         have he3 : (gtot endN (ks.take (j + 1)) : Int) = (gtot endN (ks.take j) : Int) + (if x.fr ≥ 0 then 1 else 0) + (if x.to ≥ 0 then 1 else 0) := by omega
         exact G.upto (hJ2 (j + 1) ⟨by omega, up_step hall (good_yes hlk (fun q hq => by rw [hx]; exact hcl q (by omega)))⟩ (by omega)) (by rw [he3]; simp)
   ·try simp only [zqz] at h4
    refine G.exit rfl ?_
    apply G.seq
    refine G.rg tab_ok ok_implIsNetwork (hk := ?_)
    refine G.fin tab_ok (hr := ?_)
    obtain rfl : j = ks.length := by omega
    rw [List.take_length]
    simp only [oneOrTup]
    congr 1
    symm
    rw [← netI_eq]
    exact netI_end hs12 hpa (fun k hk => hall k (by omega))
def r_implIsNetwork (xs0 : List A) (rr : A) : Prop := ∃ (ps : List PG) (ks : List LK), (NW ps) ∧ (KW ks) ∧ (ps.length < 3518437208781) ∧ (ks.length < 2513169434844) ∧ xs0 = [.agg [.row false 3 (ps.map pv), .row false 5 (ks.map kv)]] ∧ rr = .bool (netOk ps ks)
noncomputable def q_implIsNetwork : List A → Option A := kgr r_implIsNetwork
theorem k_implIsNetwork : KOk Tryz.prog (78, q_implIsNetwork) := kgr_ok (enters_of Tryz.func78 rfl rfl) (by rintro xs0 rr ⟨ps, ks, hc1, hc2, hc3, hc4, rfl, rfl⟩; exact implIsNetwork_ac ps ks hc1 hc2 hc3 hc4)
theorem e_implIsNetwork : ∀ (ps : List PG) (ks : List LK), (NW ps) → (KW ks) → (ps.length < 3518437208781) → (ks.length < 2513169434844) → q_implIsNetwork [.agg [.row false 3 (ps.map pv), .row false 5 (ks.map kv)]] = some (.bool (netOk ps ks)) := by
 intro ps ks hc1 hc2 hc3 hc4
 refine kgr_eq (fun xs0 rr r2 h h2 => ?_) ⟨ps, ks, hc1, hc2, hc3, hc4, rfl, rfl⟩
 obtain ⟨ps1, ks1, _, _, _, _, e1, rfl⟩ := h; obtain ⟨ps2, ks2, _, _, _, _, e2, rfl⟩ := h2
 rw [e1] at e2
 simp only [List.cons.injEq, A.int.injEq, A.bool.injEq, A.agg.injEq, A.row.injEq, pv_inj, kv_inj, true_and, and_true] at e2
 obtain ⟨e3, e4⟩ := e2
 subst e3 e4
 rfl
theorem ok_l3Ends : Kn.ok Tryz.prog (kof [(69, q_l1In)]) := kof_cons k_l1In ((kof_nil _))
theorem l3Ends_ac (ps : List PG) (ks : List LK) (fr : Int) (ou : Int) (to : Int) (ip : Int) (tk : List Int) (hc1 : ps.length < 3518437208781) (hc2 : ps.all pgOk = true) : AC Tryz.prog 90 [.agg [.row false 3 (ps.map pv), .row false 5 (ks.map kv)], .agg [.int .i64 fr, .int .i64 ou, .int .i64 to, .int .i64 ip, .row false 1 (tk.map iv)]] (.bool (endsOk ps ⟨fr, ou, to, ip, tk⟩)) := by
 have e_l1In := e_l1In
 have hw0 : IntKind.i64.wrap ((ps.length : Int) - 1) = (ps.length : Int) - 1 := wrap64 (by omega) (by omega)
 have hw1 : IntKind.i64.wrap 0 = 0 := wrap64 (by omega) (by omega)
 refine AC.of tab_ok Tryz.func90 rfl (Nat.le_of_ble_eq_true rfl) fun w0 S0 => ?_
 change G _ _ ⟨[(0, .agg [.row false 3 (ps.map pv), .row false 5 (ks.map kv)]), (1, .agg [.int .i64 fr, .int .i64 ou, .int .i64 to, .int .i64 ip, .row false 1 (tk.map iv)])], [], 67⟩
 apply G.seq
 refine G.rg tab_ok ok_l3Ends (hk := ?_)
 apply G.seq
 apply G.seq
 refine G.rg tab_ok ok_l3Ends (hk := ?_)
 refine G.fg [2, 3, 34] (hk := ?_)
 refine G.iff (h1 := fun h1 => ?_) (h2 := fun h1 => ?_)
 ·try simp only [zqz] at h1
  apply G.seq
  refine G.rg tab_ok ok_l3Ends (hk := ?_)
  refine G.fin tab_ok (hr := ?_)
  simp only [oneOrTup]
  congr 1
  symm
  rw [Bool.eq_false_iff]
  intro hh
  simp only [endsOk, inR, Bool.and_eq_true, decide_eq_true_eq, Bool.not_eq_true', Bool.and_eq_false_imp, beq_iff_eq, beq_eq_false_iff_ne] at hh
  omega
 ·try simp only [zqz] at h1
  apply G.skip
  apply G.seq
  have hin : (-1 ≤ fr ∧ fr < (ps.length : Int)) ∧ (-1 ≤ to ∧ to < (ps.length : Int)) ∧ ¬ (fr = -1 ∧ to = -1) := by omega
  obtain ⟨⟨hf1, hf2⟩, ⟨ht1, ht2⟩, hn⟩ := hin
  refine G.rg tab_ok ok_l3Ends (hk := ?_)
  apply G.seq
  apply G.seq
  refine G.rg tab_ok ok_l3Ends (hk := ?_)
  refine G.iff (h1 := fun h2 => ?_) (h2 := fun h2 => ?_)
  ·try simp only [zqz] at h2
   have hf3 : fr.toNat < ps.length := by omega
   obtain ⟨_, ho, _⟩ := pg_bd hc2 hf3
   have hwo : IntKind.i64.wrap ((ps.getD fr.toNat default).o - 1) = (ps.getD fr.toNat default).o - 1 := wrap64 (by omega) (by omega)
   refine G.rg tab_ok ok_l3Ends (hk := ?_)
   apply G.seq
   refine G.rg tab_ok ok_l3Ends (hk := ?_)
   apply G.seq
   apply G.seq
   refine G.rg tab_ok ok_l3Ends (hk := ?_)
   refine G.fg [2, 3, 5, 6, 47] (hk := ?_)
   refine G.iff (h1 := fun h3 => ?_) (h2 := fun h3 => ?_)
   ·try simp only [zqz] at h3
    have ht3 : to.toNat < ps.length := by omega
    obtain ⟨hi, _, _⟩ := pg_bd hc2 ht3
    have hwi : IntKind.i64.wrap ((ps.getD to.toNat default).i - 1) = (ps.getD to.toNat default).i - 1 := wrap64 (by omega) (by omega)
    refine G.rg tab_ok ok_l3Ends (hk := ?_)
    apply G.seq
    refine G.rg tab_ok ok_l3Ends (hk := ?_)
    refine G.fin tab_ok (hr := ?_)
    simp only [oneOrTup]
    congr 1
    rw [Bool.eq_iff_iff]
    simp only [endsOk, inR, Bool.and_eq_true, decide_eq_true_eq, Bool.not_eq_true', Bool.and_eq_false_imp, beq_iff_eq, beq_eq_false_iff_ne]
    rw [if_pos h2]
    rw [if_pos h3]
    omega
   ·try simp only [zqz] at h3
    apply G.skip
    apply G.seq
    refine G.rg tab_ok ok_l3Ends (hk := ?_)
    refine G.fin tab_ok (hr := ?_)
    simp only [oneOrTup]
    congr 1
    rw [Bool.eq_iff_iff]
    simp only [endsOk, inR, Bool.and_eq_true, decide_eq_true_eq, Bool.not_eq_true', Bool.and_eq_false_imp, beq_iff_eq, beq_eq_false_iff_ne]
    rw [if_pos h2]
    rw [if_neg (by omega)]
    omega
  ·try simp only [zqz] at h2
   apply G.skip
   apply G.seq
   refine G.rg tab_ok ok_l3Ends (hk := ?_)
   apply G.seq
   apply G.seq
   refine G.rg tab_ok ok_l3Ends (hk := ?_)
   refine G.iff (h1 := fun h4 => ?_) (h2 := fun h4 => ?_)
   ·try simp only [zqz] at h4
    have ht3 : to.toNat < ps.length := by omega
    obtain ⟨hi, _, _⟩ := pg_bd hc2 ht3
    have hwi : IntKind.i64.wrap ((ps.getD to.toNat default).i - 1) = (ps.getD to.toNat default).i - 1 := wrap64 (by omega) (by omega)
    refine G.rg tab_ok ok_l3Ends (hk := ?_)
    apply G.seq
    refine G.rg tab_ok ok_l3Ends (hk := ?_)
    refine G.fin tab_ok (hr := ?_)
    simp only [oneOrTup]
    congr 1
    rw [Bool.eq_iff_iff]
    simp only [endsOk, inR, Bool.and_eq_true, decide_eq_true_eq, Bool.not_eq_true', Bool.and_eq_false_imp, beq_iff_eq, beq_eq_false_iff_ne]
    rw [if_neg (by omega)]
    rw [if_pos h4]
    omega
   ·try simp only [zqz] at h4
    apply G.skip
    apply G.seq
    refine G.rg tab_ok ok_l3Ends (hk := ?_)
    refine G.fin tab_ok (hr := ?_)
    simp only [oneOrTup]
    congr 1
    rw [Bool.eq_iff_iff]
    simp only [endsOk, inR, Bool.and_eq_true, decide_eq_true_eq, Bool.not_eq_true', Bool.and_eq_false_imp, beq_iff_eq, beq_eq_false_iff_ne]
    rw [if_neg (by omega)]
    rw [if_neg (by omega)]
    omega
def r_l3Ends (xs0 : List A) (rr : A) : Prop := ∃ (ps : List PG) (ks : List LK) (fr : Int) (ou : Int) (to : Int) (ip : Int) (tk : List Int), (ps.length < 3518437208781) ∧ (ps.all pgOk = true) ∧ xs0 = [.agg [.row false 3 (ps.map pv), .row false 5 (ks.map kv)], .agg [.int .i64 fr, .int .i64 ou, .int .i64 to, .int .i64 ip, .row false 1 (tk.map iv)]] ∧ rr = .bool (endsOk ps ⟨fr, ou, to, ip, tk⟩)
noncomputable def q_l3Ends : List A → Option A := kgr r_l3Ends
theorem k_l3Ends : KOk Tryz.prog (90, q_l3Ends) := kgr_ok (enters_of Tryz.func90 rfl rfl) (by rintro xs0 rr ⟨ps, ks, fr, ou, to, ip, tk, hc1, hc2, rfl, rfl⟩; exact l3Ends_ac ps ks fr ou to ip tk hc1 hc2)
theorem e_l3Ends : ∀ (ps : List PG) (ks : List LK) (fr : Int) (ou : Int) (to : Int) (ip : Int) (tk : List Int), (ps.length < 3518437208781) → (ps.all pgOk = true) → q_l3Ends [.agg [.row false 3 (ps.map pv), .row false 5 (ks.map kv)], .agg [.int .i64 fr, .int .i64 ou, .int .i64 to, .int .i64 ip, .row false 1 (tk.map iv)]] = some (.bool (endsOk ps ⟨fr, ou, to, ip, tk⟩)) := by
 intro ps ks fr ou to ip tk hc1 hc2
 refine kgr_eq (fun xs0 rr r2 h h2 => ?_) ⟨ps, ks, fr, ou, to, ip, tk, hc1, hc2, rfl, rfl⟩
 obtain ⟨ps1, ks1, fr1, ou1, to1, ip1, tk1, _, _, e1, rfl⟩ := h; obtain ⟨ps2, ks2, fr2, ou2, to2, ip2, tk2, _, _, e2, rfl⟩ := h2
 rw [e1] at e2
 simp only [List.cons.injEq, A.int.injEq, A.agg.injEq, A.row.injEq, pv_inj, kv_inj, iv_inj, true_and, and_true] at e2
 obtain ⟨⟨e3, e4⟩, e5, e6, e7, e8, e9⟩ := e2
 subst e3 e4 e5 e6 e7 e8 e9
 rfl
theorem ok_specIsNetwork : Kn.ok Tryz.prog (kof [(89, q_specIsProgram), (90, q_l3Ends), (71, q_specIsStream), (74, q_l3To), (75, q_l3From)]) := kof_cons k_specIsProgram (kof_cons k_l3Ends (kof_cons k_specIsStream (kof_cons k_l3To (kof_cons k_l3From ((kof_nil _))))))
theorem specIsNetwork_ac (ps : List PG) (ks : List LK) (hc1 : NW ps) (hc2 : KW ks) (hc3 : ps.length < 3518437208781) (hc4 : ks.length < 2513169434844) : AC Tryz.prog 68 [.agg [.row false 3 (ps.map pv), .row false 5 (ks.map kv)]] (.bool (netOk ps ks)) := by
 have e_specIsProgram := e_specIsProgram
 have e_l3Ends := e_l3Ends
 have e_specIsStream := e_specIsStream
 have e_l3To := e_l3To
 have e_l3From := e_l3From
 refine AC.of tab_ok Tryz.func68 rfl (Nat.le_of_ble_eq_true rfl) fun w0 S0 => ?_
 change G _ _ ⟨[(0, .agg [.row false 3 (ps.map pv), .row false 5 (ks.map kv)])], [], 81⟩
 apply G.seq
 refine G.rg tab_ok ok_specIsNetwork (hk := ?_)
 apply G.seq
 apply G.seq
 refine G.rg tab_ok ok_specIsNetwork (hk := ?_)
 refine G.fg [1, 20] (hk := ?_)
 refine G.iff (h1 := fun h1 => ?_) (h2 := fun h1 => ?_)
 ·try simp only [zqz] at h1
  apply G.seq
  refine G.rg tab_ok ok_specIsNetwork (hk := ?_)
  refine G.fin tab_ok (hr := ?_)
  simp only [oneOrTup]
  congr 1
  exact (netOk_small h1).symm
 ·try simp only [zqz] at h1
  apply G.skip
  apply G.seq
  apply G.seq
  refine G.rg tab_ok ok_specIsNetwork (hk := ?_)
  apply G.block
  have hs12 : netSmall ps ks = true := small_yes (by omega)
  refine G.cn [1, 22, 23, 24] [0] (h := ?_)
  refine G.loopX (fun j : Nat => ⟨[(1, .ptr 0 0 0), (22, .row false 3 (ps.map pv)), (23, .int .i64 ps.length), (24, .int .i64 j)], [some (2, [[.row false 3 (ps.map pv), .row false 5 (ks.map kv)]])], 81⟩) (fun j => j ≤ ps.length ∧ ∀ k < j, pgOk (ps.getD k default) = true) (fun j => ps.length - j) (0) (⟨Nat.zero_le _, by omega⟩) (by simp) ?_
  intro j hj J hJ
  obtain ⟨hj, hall⟩ := hj
  have hw : IntKind.i64.wrap ((j : Int) + 1) = (j : Int) + 1 := wrap64 (by omega) (by omega)
  apply G.seq
  refine G.rg tab_ok ok_specIsNetwork (hk := ?_)
  apply G.seq
  refine G.iff (h1 := fun h2 => ?_) (h2 := fun h2 => ?_)
  ·try simp only [zqz] at h2
   apply G.skip
   apply G.seq
   apply G.block
   apply G.seq
   refine G.rg tab_ok ok_specIsNetwork (hk := ?_)
   apply G.seq
   have hlr : (ps.getD j default).l.length < 4398046511104 := hc1 _ (getD_mem0 h2)
   refine G.rg tab_ok ok_specIsNetwork (hk := ?_)
   refine G.iff (h1 := fun h3 => ?_) (h2 := fun h3 => ?_)
   ·try simp only [zqz] at h3
    apply G.seq
    refine G.rg tab_ok ok_specIsNetwork (hk := ?_)
    refine G.fin tab_ok (hr := ?_)
    simp only [oneOrTup]
    congr 1
    exact (netOk_pg h2 h3).symm
   ·try simp only [zqz] at h3
    apply G.skip
    apply G.blk
    refine G.rg tab_ok ok_specIsNetwork (hk := ?_)
    refine G.cn [1, 22, 23, 24] [0] (h := ?_)
    exact G.upto (hJ (j + 1) ⟨by omega, gupto (p := pgOk) hall h3⟩ (by omega)) (by simp)
  ·try simp only [zqz] at h2
   refine G.exit rfl ?_
   apply G.seq
   apply G.seq
   refine G.rg tab_ok ok_specIsNetwork (hk := ?_)
   apply G.block
   have hpa : ps.all pgOk = true := gall (p := pgOk) (fun k hk => hall k (by omega))
   clear hJ hall hj
   refine G.cn [1, 33, 34, 35] [0] (h := ?_)
   refine G.loopX (fun j : Nat => ⟨[(1, .ptr 0 0 0), (33, .row false 5 (ks.map kv)), (34, .int .i64 ks.length), (35, .int .i64 j)], [some (2, [[.row false 3 (ps.map pv), .row false 5 (ks.map kv)]])], 81⟩) (fun j => j ≤ ks.length ∧ ∀ k < j, linkOk ps (ks.getD k default) = true) (fun j => ks.length - j) (0) (⟨Nat.zero_le _, by omega⟩) (by simp) ?_
   intro j hj J hJ
   obtain ⟨hj, hall⟩ := hj
   have hw : IntKind.i64.wrap ((j : Int) + 1) = (j : Int) + 1 := wrap64 (by omega) (by omega)
   apply G.seq
   refine G.rg tab_ok ok_specIsNetwork (hk := ?_)
   apply G.seq
   refine G.iff (h1 := fun h4 => ?_) (h2 := fun h4 => ?_)
   ·try simp only [zqz] at h4
    apply G.skip
    apply G.seq
    apply G.block
    apply G.seq
    refine G.rg tab_ok ok_specIsNetwork (hk := ?_)
    apply G.seq
    have hlr : (ks.getD j default).tk.length < 17592186044416 := hc2 _ (getD_mem0 h4)
    refine G.rg tab_ok ok_specIsNetwork (hk := ?_)
    refine G.fg [1, 33, 34, 35, 48] (hk := ?_)
    refine G.iff (h1 := fun h5 => ?_) (h2 := fun h5 => ?_)
    ·try simp only [zqz] at h5
     apply G.seq
     refine G.rg tab_ok ok_specIsNetwork (hk := ?_)
     refine G.fin tab_ok (hr := ?_)
     simp only [oneOrTup]
     congr 1
     exact (netOk_lk h4 (link_no (if_no h5))).symm
    ·try simp only [zqz] at h5
     apply G.skip
     apply G.blk
     refine G.rg tab_ok ok_specIsNetwork (hk := ?_)
     refine G.cn [1, 33, 34, 35] [0] (h := ?_)
     exact G.upto (hJ (j + 1) ⟨by omega, gupto (p := linkOk ps) hall (link_yes (if_yes h5))⟩ (by omega)) (by simp)
   ·try simp only [zqz] at h4
    refine G.exit rfl ?_
    apply G.seq
    apply G.seq
    refine G.rg tab_ok ok_specIsNetwork (hk := ?_)
    apply G.block
    have hla : ks.all (linkOk ps) = true := gall (p := linkOk ps) (fun k hk => hall k (by omega))
    clear hJ hall hj
    refine G.cn [1, 51, 52, 53] [0] (h := ?_)
    refine G.loopX (fun i : Nat => ⟨[(1, .ptr 0 0 0), (51, .row false 3 (ps.map pv)), (52, .int .i64 ps.length), (53, .int .i64 i)], [some (2, [[.row false 3 (ps.map pv), .row false 5 (ks.map kv)]])], 81⟩) (fun i => i ≤ ps.length ∧ ∀ k < i, portsOk ps ks k = true) (fun i => ps.length - i) (0) (⟨Nat.zero_le _, by omega⟩) (by simp) ?_
    intro i hi J2 hJ2
    obtain ⟨hi, hpo⟩ := hi
    have hwi : IntKind.i64.wrap ((i : Int) + 1) = (i : Int) + 1 := wrap64 (by omega) (by omega)
    apply G.seq
    refine G.rg tab_ok ok_specIsNetwork (hk := ?_)
    apply G.seq
    refine G.iff (h1 := fun h6 => ?_) (h2 := fun h6 => ?_)
    ·try simp only [zqz] at h6
     apply G.skip
     apply G.seq
     apply G.block
     apply G.seq
     refine G.rg tab_ok ok_specIsNetwork (hk := ?_)
     apply G.seq
     apply G.seq
     refine G.rg tab_ok ok_specIsNetwork (hk := ?_)
     apply G.block
     obtain ⟨⟨bi0, bi3⟩, ⟨bo0, bo3⟩, _, _⟩ := pg_bd hpa (k := i) (by omega)
     refine G.cn [1, 7, 8, 9, 51, 52, 53] [0, 1] (h := ?_)
     refine G.loopX (fun k : Nat => ⟨[(1, .ptr 0 0 0), (7, .int .i64 i), (8, .ptr 1 0 0), (9, .int .i64 k), (51, .row false 3 (ps.map pv)), (52, .int .i64 ps.length), (53, .int .i64 i)], [some (2, [[.row false 3 (ps.map pv), .row false 5 (ks.map kv)]]), some (3, [[.int .i64 (ps.getD i default).i, .int .i64 (ps.getD i default).o, .row false 4 ((ps.getD i default).l.map insv)]])], 81⟩) (fun k => k ≤ (ps.getD i default).i.toNat ∧ ∀ m < k, 0 ≤ onlyAt (isTo i m) ks) (fun k => (ps.getD i default).i.toNat - k) (0) (⟨Nat.zero_le _, by omega⟩) (by simp) ?_
     intro k hk J hJ
     obtain ⟨hk, hall⟩ := hk
     have hwk : IntKind.i64.wrap ((k : Int) + 1) = (k : Int) + 1 := wrap64 (by omega) (by omega)
     apply G.seq
     apply G.seq
     refine G.rg tab_ok ok_specIsNetwork (hk := ?_)
     refine G.iff (h1 := fun h7 => ?_) (h2 := fun h7 => ?_)
     ·try simp only [zqz] at h7
      apply G.skip
      apply G.seq
      apply G.block
      apply G.seq
      refine G.rg tab_ok ok_specIsNetwork (hk := ?_)
      refine G.fg [1, 7, 8, 9, 51, 52, 53, 68] (hk := ?_)
      refine G.iff (h1 := fun h8 => ?_) (h2 := fun h8 => ?_)
      ·try simp only [zqz] at h8
       apply G.seq
       refine G.rg tab_ok ok_specIsNetwork (hk := ?_)
       refine G.fin tab_ok (hr := ?_)
       simp only [oneOrTup]
       congr 1
       exact (netOk_in h6 h7 h8).symm
      ·try simp only [zqz] at h8
       apply G.skip
       apply G.blk
       refine G.rg tab_ok ok_specIsNetwork (hk := ?_)
       refine G.cn [1, 7, 8, 9, 51, 52, 53] [0, 1] (h := ?_)
       exact G.upto (hJ (k + 1) ⟨by omega, up_step hall (by omega)⟩ (by omega)) (by simp)
     ·try simp only [zqz] at h7
      refine G.exit rfl ?_
      apply G.seq
      refine G.rg tab_ok ok_specIsNetwork (hk := ?_)
      apply G.block
      have hins : ∀ m < (ps.getD i default).i.toNat, 0 ≤ onlyAt (isTo i m) ks := fun m hm => hall m (by omega)
      clear hJ hall hk hwk
      refine G.cn [1, 7, 8, 10, 51, 52, 53] [0, 1] (h := ?_)
      refine G.loopX (fun k : Nat => ⟨[(1, .ptr 0 0 0), (7, .int .i64 i), (8, .ptr 1 0 0), (10, .int .i64 k), (51, .row false 3 (ps.map pv)), (52, .int .i64 ps.length), (53, .int .i64 i)], [some (2, [[.row false 3 (ps.map pv), .row false 5 (ks.map kv)]]), some (3, [[.int .i64 (ps.getD i default).i, .int .i64 (ps.getD i default).o, .row false 4 ((ps.getD i default).l.map insv)]])], 81⟩) (fun k => k ≤ (ps.getD i default).o.toNat ∧ ∀ m < k, 0 ≤ onlyAt (isFr i m) ks) (fun k => (ps.getD i default).o.toNat - k) (0) (⟨Nat.zero_le _, by omega⟩) (by simp) ?_
      intro k hk J hJ
      obtain ⟨hk, hall⟩ := hk
      have hwk : IntKind.i64.wrap ((k : Int) + 1) = (k : Int) + 1 := wrap64 (by omega) (by omega)
      apply G.seq
      apply G.seq
      refine G.rg tab_ok ok_specIsNetwork (hk := ?_)
      refine G.iff (h1 := fun h9 => ?_) (h2 := fun h9 => ?_)
      ·try simp only [zqz] at h9
       apply G.skip
       apply G.seq
       apply G.block
       apply G.seq
       refine G.rg tab_ok ok_specIsNetwork (hk := ?_)
       refine G.fg [1, 7, 8, 10, 51, 52, 53, 79] (hk := ?_)
       refine G.iff (h1 := fun h10 => ?_) (h2 := fun h10 => ?_)
       ·try simp only [zqz] at h10
        apply G.seq
        refine G.rg tab_ok ok_specIsNetwork (hk := ?_)
        refine G.fin tab_ok (hr := ?_)
        simp only [oneOrTup]
        congr 1
        exact (netOk_out h6 h9 h10).symm
       ·try simp only [zqz] at h10
        apply G.skip
        apply G.blk
        refine G.rg tab_ok ok_specIsNetwork (hk := ?_)
        refine G.cn [1, 7, 8, 10, 51, 52, 53] [0, 1] (h := ?_)
        exact G.upto (hJ (k + 1) ⟨by omega, up_step hall (by omega)⟩ (by omega)) (by simp)
      ·try simp only [zqz] at h9
       refine G.exit rfl ?_
       apply G.blk
       refine G.rg tab_ok ok_specIsNetwork (hk := ?_)
       refine G.cn [1, 51, 52, 53] [0] (h := ?_)
       exact G.upto (hJ2 (i + 1) ⟨by omega, up_step hpo (portsOk_of (fun k hk => hins k (by omega)) (fun k hk => hall k (by omega)))⟩ (by omega)) (by simp)
    ·try simp only [zqz] at h6
     refine G.exit rfl ?_
     apply G.seq
     refine G.rg tab_ok ok_specIsNetwork (hk := ?_)
     refine G.fin tab_ok (hr := ?_)
     simp only [oneOrTup]
     congr 1
     exact (netOk_yes hs12 hpa hla (fun q hq => hpo q (by omega))).symm
def r_specIsNetwork (xs0 : List A) (rr : A) : Prop := ∃ (ps : List PG) (ks : List LK), (NW ps) ∧ (KW ks) ∧ (ps.length < 3518437208781) ∧ (ks.length < 2513169434844) ∧ xs0 = [.agg [.row false 3 (ps.map pv), .row false 5 (ks.map kv)]] ∧ rr = .bool (netOk ps ks)
noncomputable def q_specIsNetwork : List A → Option A := kgr r_specIsNetwork
theorem k_specIsNetwork : KOk Tryz.prog (68, q_specIsNetwork) := kgr_ok (enters_of Tryz.func68 rfl rfl) (by rintro xs0 rr ⟨ps, ks, hc1, hc2, hc3, hc4, rfl, rfl⟩; exact specIsNetwork_ac ps ks hc1 hc2 hc3 hc4)
theorem e_specIsNetwork : ∀ (ps : List PG) (ks : List LK), (NW ps) → (KW ks) → (ps.length < 3518437208781) → (ks.length < 2513169434844) → q_specIsNetwork [.agg [.row false 3 (ps.map pv), .row false 5 (ks.map kv)]] = some (.bool (netOk ps ks)) := by
 intro ps ks hc1 hc2 hc3 hc4
 refine kgr_eq (fun xs0 rr r2 h h2 => ?_) ⟨ps, ks, hc1, hc2, hc3, hc4, rfl, rfl⟩
 obtain ⟨ps1, ks1, _, _, _, _, e1, rfl⟩ := h; obtain ⟨ps2, ks2, _, _, _, _, e2, rfl⟩ := h2
 rw [e1] at e2
 simp only [List.cons.injEq, A.int.injEq, A.bool.injEq, A.agg.injEq, A.row.injEq, pv_inj, kv_inj, true_and, and_true] at e2
 obtain ⟨e3, e4⟩ := e2
 subst e3 e4
 rfl
theorem ok_szLink : Kn.ok Tryz.prog (kof [(42, q_szIntS)]) := kof_cons k_szIntS ((kof_nil _))
theorem szLink_ac (fr : Int) (ou : Int) (to : Int) (ip : Int) (tk : List Int) (n : Int) (hc1 : 0 ≤ n) (hc2 : n ≤ 1048576) (hc3 : tk.length < 17592186044416) : AC Tryz.prog 40 [.agg [.int .i64 fr, .int .i64 ou, .int .i64 to, .int .i64 ip, .row false 1 (tk.map iv)], .int .i64 n] (.int .i64 (if n - tk.length < 0 then -1 else n - tk.length)) := by
 have e_szIntS := e_szIntS
 refine AC.of tab_ok Tryz.func40 rfl (Nat.le_of_ble_eq_true rfl) fun w0 S0 => ?_
 change G _ _ ⟨[(0, .agg [.int .i64 fr, .int .i64 ou, .int .i64 to, .int .i64 ip, .row false 1 (tk.map iv)]), (1, .int .i64 n)], [], 12⟩
 apply G.seq
 refine G.rg tab_ok ok_szLink (hk := ?_)
 apply G.seq
 refine G.rg tab_ok ok_szLink (hk := ?_)
 apply G.seq
 apply G.seq
 refine G.rg tab_ok ok_szLink (hk := ?_)
 refine G.fg [1, 10] (hk := ?_)
 refine G.iff (h1 := fun h1 => ?_) (h2 := fun h1 => ?_)
 ·try simp only [zqz] at h1
  apply G.seq
  refine G.rg tab_ok ok_szLink (hk := ?_)
  refine G.fin tab_ok (hr := ?_)
  simp only [oneOrTup]
  congr 1
  split at h1 <;> rename_i hh <;> simp only [hh, if_true, if_false]
  omega
 ·try simp only [zqz] at h1
  apply G.skip
  apply G.seq
  refine G.rg tab_ok ok_szLink (hk := ?_)
  refine G.fin tab_ok (hr := ?_)
  rfl
def r_szLink (xs0 : List A) (rr : A) : Prop := ∃ (fr : Int) (ou : Int) (to : Int) (ip : Int) (tk : List Int) (n : Int), (0 ≤ n) ∧ (n ≤ 1048576) ∧ (tk.length < 17592186044416) ∧ xs0 = [.agg [.int .i64 fr, .int .i64 ou, .int .i64 to, .int .i64 ip, .row false 1 (tk.map iv)], .int .i64 n] ∧ rr = .int .i64 (if n - tk.length < 0 then -1 else n - tk.length)
noncomputable def q_szLink : List A → Option A := kgr r_szLink
theorem k_szLink : KOk Tryz.prog (40, q_szLink) := kgr_ok (enters_of Tryz.func40 rfl rfl) (by rintro xs0 rr ⟨fr, ou, to, ip, tk, n, hc1, hc2, hc3, rfl, rfl⟩; exact szLink_ac fr ou to ip tk n hc1 hc2 hc3)
theorem e_szLink : ∀ (fr : Int) (ou : Int) (to : Int) (ip : Int) (tk : List Int) (n : Int), (0 ≤ n) → (n ≤ 1048576) → (tk.length < 17592186044416) → q_szLink [.agg [.int .i64 fr, .int .i64 ou, .int .i64 to, .int .i64 ip, .row false 1 (tk.map iv)], .int .i64 n] = some (.int .i64 (if n - tk.length < 0 then -1 else n - tk.length)) := by
 intro fr ou to ip tk n hc1 hc2 hc3
 refine kgr_eq (fun xs0 rr r2 h h2 => ?_) ⟨fr, ou, to, ip, tk, n, hc1, hc2, hc3, rfl, rfl⟩
 obtain ⟨fr1, ou1, to1, ip1, tk1, n1, _, _, _, e1, rfl⟩ := h; obtain ⟨fr2, ou2, to2, ip2, tk2, n2, _, _, _, e2, rfl⟩ := h2
 rw [e1] at e2
 simp only [List.cons.injEq, A.int.injEq, A.bool.injEq, A.agg.injEq, A.row.injEq, A.fn.injEq, A.rp.injEq, insv_inj, iv_inj, true_and, and_true] at e2
 simp [e2]
theorem ok_szProgramS : Kn.ok Tryz.prog (kof [(39, q_szProgram)]) := kof_cons k_szProgram ((kof_nil _))
theorem szProgramS_ac (ps : List PG) (n : Int) (hc1 : 0 ≤ n) (hc2 : n ≤ 1048576) (hc3 : ps.length < 3518437208781) (hc4 : NW ps) : AC Tryz.prog 15 [.row false 3 (ps.map pv), .int .i64 n] (.int .i64 (szT n ps.length (gtot pL ps))) := by
 have e_szProgram := e_szProgram
 have hw0 : IntKind.i64.wrap (n - (ps.length : Int)) = n - ps.length := wrap64 (by omega) (by omega)
 refine AC.of tab_ok Tryz.func15 rfl (Nat.le_of_ble_eq_true rfl) fun w0 S0 => ?_
 change G _ _ ⟨[(0, .row false 3 (ps.map pv)), (1, .int .i64 n)], [], 27⟩
 apply G.seq
 refine G.rg tab_ok ok_szProgramS (hk := ?_)
 apply G.seq
 refine G.rg tab_ok ok_szProgramS (hk := ?_)
 apply G.seq
 apply G.seq
 refine G.rg tab_ok ok_szProgramS (hk := ?_)
 refine G.iff (h1 := fun h1 => ?_) (h2 := fun h1 => ?_)
 ·try simp only [zqz] at h1
  apply G.seq
  refine G.rg tab_ok ok_szProgramS (hk := ?_)
  refine G.fin tab_ok (hr := ?_)
  simp only [oneOrTup]
  congr 1
  unfold szT
  rw [if_pos (by omega)]
 ·try simp only [zqz] at h1
  apply G.skip
  apply G.seq
  apply G.seq
  refine G.rg tab_ok ok_szProgramS (hk := ?_)
  apply G.block
  refine G.cn [0, 1, 5] [] (h := ?_)
  refine G.loopX (fun j : Nat => ⟨[(0, .row false 3 (ps.map pv)), (1, .int .i64 (n - (ps.length : Int) - (gtot pL (ps.take j) : Int))), (5, .int .i64 j)], [], 27⟩) (fun j => j ≤ ps.length ∧ 0 ≤ n - (ps.length : Int) - (gtot pL (ps.take j) : Int)) (fun j => ps.length - j) (0) (⟨Nat.zero_le _, by simp only [List.take_zero, gtot_nil]; omega⟩) (by simp [gtot_nil]) ?_
  intro j hj J hJ
  obtain ⟨hj, hk⟩ := hj
  have hk2 : n - (ps.length : Int) - (gtot pL (ps.take j) : Int) ≤ 1048576 := by omega
  have hw : IntKind.i64.wrap ((j : Int) + 1) = (j : Int) + 1 := wrap64 (by omega) (by omega)
  apply G.seq
  apply G.seq
  refine G.rg tab_ok ok_szProgramS (hk := ?_)
  refine G.iff (h1 := fun h2 => ?_) (h2 := fun h2 => ?_)
  ·try simp only [zqz] at h2
   apply G.skip
   apply G.seq
   apply G.block
   apply G.seq
   have hlr : (ps.getD j default).l.length < 4398046511104 := hc4 _ (getD_mem0 h2)
   refine G.rg tab_ok ok_szProgramS (hk := ?_)
   apply G.seq
   refine G.rg tab_ok ok_szProgramS (hk := ?_)
   refine G.fg [0, 1, 5, 25] (hk := ?_)
   refine G.iff (h1 := fun h3 => ?_) (h2 := fun h3 => ?_)
   ·try simp only [zqz] at h3
    apply G.seq
    refine G.rg tab_ok ok_szProgramS (hk := ?_)
    refine G.fin tab_ok (hr := ?_)
    simp only [oneOrTup]
    congr 1
    symm
    split at h3
    ·rename_i hh
     exact szT_neg (f := pL) h2 hh
    ·omega
   ·try simp only [zqz] at h3
    apply G.skip
    apply G.blk
    refine G.rg tab_ok ok_szProgramS (hk := ?_)
    refine G.cn [0, 1, 5] [] (h := ?_)
    split at h3
    ·omega
    rename_i hh
    rw [if_neg hh]
    obtain ⟨hv, hpos⟩ := szT_step (f := pL) h2 hk hh
    exact G.upto (hJ (j + 1) ⟨by omega, hpos⟩ (by omega)) (by rw [← hv]; simp)
  ·try simp only [zqz] at h2
   refine G.exit rfl ?_
   apply G.seq
   refine G.rg tab_ok ok_szProgramS (hk := ?_)
   obtain rfl : j = ps.length := by omega
   rw [List.take_length] at hk ⊢
   refine G.fin tab_ok (hr := ?_)
   simp only [oneOrTup]
   congr 1
   unfold szT
   rw [if_neg (by omega)]
def r_szProgramS (xs0 : List A) (rr : A) : Prop := ∃ (ps : List PG) (n : Int), (0 ≤ n) ∧ (n ≤ 1048576) ∧ (ps.length < 3518437208781) ∧ (NW ps) ∧ xs0 = [.row false 3 (ps.map pv), .int .i64 n] ∧ rr = .int .i64 (szT n ps.length (gtot pL ps))
noncomputable def q_szProgramS : List A → Option A := kgr r_szProgramS
theorem k_szProgramS : KOk Tryz.prog (15, q_szProgramS) := kgr_ok (enters_of Tryz.func15 rfl rfl) (by rintro xs0 rr ⟨ps, n, hc1, hc2, hc3, hc4, rfl, rfl⟩; exact szProgramS_ac ps n hc1 hc2 hc3 hc4)
theorem e_szProgramS : ∀ (ps : List PG) (n : Int), (0 ≤ n) → (n ≤ 1048576) → (ps.length < 3518437208781) → (NW ps) → q_szProgramS [.row false 3 (ps.map pv), .int .i64 n] = some (.int .i64 (szT n ps.length (gtot pL ps))) := by
 intro ps n hc1 hc2 hc3 hc4
 refine kgr_eq (fun xs0 rr r2 h h2 => ?_) ⟨ps, n, hc1, hc2, hc3, hc4, rfl, rfl⟩
 obtain ⟨ps1, n1, _, _, _, _, e1, rfl⟩ := h; obtain ⟨ps2, n2, _, _, _, _, e2, rfl⟩ := h2
 rw [e1] at e2
 simp only [List.cons.injEq, A.int.injEq, A.bool.injEq, A.agg.injEq, A.row.injEq, A.fn.injEq, A.rp.injEq, insv_inj, iv_inj, pv_inj, kv_inj, av_inj, true_and, and_true] at e2
 simp [e2]
theorem ok_szLinkS : Kn.ok Tryz.prog (kof [(40, q_szLink)]) := kof_cons k_szLink ((kof_nil _))
theorem szLinkS_ac (ks : List LK) (n : Int) (hc1 : 0 ≤ n) (hc2 : n ≤ 1048576) (hc3 : ks.length < 2513169434844) (hc4 : KW ks) : AC Tryz.prog 16 [.row false 5 (ks.map kv), .int .i64 n] (.int .i64 (szT n ks.length (gtot kL ks))) := by
 have e_szLink := e_szLink
 have hw0 : IntKind.i64.wrap (n - (ks.length : Int)) = n - ks.length := wrap64 (by omega) (by omega)
 refine AC.of tab_ok Tryz.func16 rfl (Nat.le_of_ble_eq_true rfl) fun w0 S0 => ?_
 change G _ _ ⟨[(0, .row false 5 (ks.map kv)), (1, .int .i64 n)], [], 27⟩
 apply G.seq
 refine G.rg tab_ok ok_szLinkS (hk := ?_)
 apply G.seq
 refine G.rg tab_ok ok_szLinkS (hk := ?_)
 apply G.seq
 apply G.seq
 refine G.rg tab_ok ok_szLinkS (hk := ?_)
 refine G.iff (h1 := fun h1 => ?_) (h2 := fun h1 => ?_)
 ·try simp only [zqz] at h1
  apply G.seq
  refine G.rg tab_ok ok_szLinkS (hk := ?_)
  refine G.fin tab_ok (hr := ?_)
  simp only [oneOrTup]
  congr 1
  unfold szT
  rw [if_pos (by omega)]
 ·try simp only [zqz] at h1
  apply G.skip
  apply G.seq
  apply G.seq
  refine G.rg tab_ok ok_szLinkS (hk := ?_)
  apply G.block
  refine G.cn [0, 1, 5] [] (h := ?_)
  refine G.loopX (fun j : Nat => ⟨[(0, .row false 5 (ks.map kv)), (1, .int .i64 (n - (ks.length : Int) - (gtot kL (ks.take j) : Int))), (5, .int .i64 j)], [], 27⟩) (fun j => j ≤ ks.length ∧ 0 ≤ n - (ks.length : Int) - (gtot kL (ks.take j) : Int)) (fun j => ks.length - j) (0) (⟨Nat.zero_le _, by simp only [List.take_zero, gtot_nil]; omega⟩) (by simp [gtot_nil]) ?_
  intro j hj J hJ
  obtain ⟨hj, hk⟩ := hj
  have hk2 : n - (ks.length : Int) - (gtot kL (ks.take j) : Int) ≤ 1048576 := by omega
  have hw : IntKind.i64.wrap ((j : Int) + 1) = (j : Int) + 1 := wrap64 (by omega) (by omega)
  apply G.seq
  apply G.seq
  refine G.rg tab_ok ok_szLinkS (hk := ?_)
  refine G.iff (h1 := fun h2 => ?_) (h2 := fun h2 => ?_)
  ·try simp only [zqz] at h2
   apply G.skip
   apply G.seq
   apply G.block
   apply G.seq
   have hlr : (ks.getD j default).tk.length < 17592186044416 := hc4 _ (getD_mem0 h2)
   refine G.rg tab_ok ok_szLinkS (hk := ?_)
   apply G.seq
   refine G.rg tab_ok ok_szLinkS (hk := ?_)
   refine G.fg [0, 1, 5, 25] (hk := ?_)
   refine G.iff (h1 := fun h3 => ?_) (h2 := fun h3 => ?_)
   ·try simp only [zqz] at h3
    apply G.seq
    refine G.rg tab_ok ok_szLinkS (hk := ?_)
    refine G.fin tab_ok (hr := ?_)
    simp only [oneOrTup]
    congr 1
    symm
    split at h3
    ·rename_i hh
     exact szT_neg (f := kL) h2 hh
    ·omega
   ·try simp only [zqz] at h3
    apply G.skip
    apply G.blk
    refine G.rg tab_ok ok_szLinkS (hk := ?_)
    refine G.cn [0, 1, 5] [] (h := ?_)
    split at h3
    ·omega
    rename_i hh
    rw [if_neg hh]
    obtain ⟨hv, hpos⟩ := szT_step (f := kL) h2 hk hh
    exact G.upto (hJ (j + 1) ⟨by omega, hpos⟩ (by omega)) (by rw [← hv]; simp)
  ·try simp only [zqz] at h2
   refine G.exit rfl ?_
   apply G.seq
   refine G.rg tab_ok ok_szLinkS (hk := ?_)
   obtain rfl : j = ks.length := by omega
   rw [List.take_length] at hk ⊢
   refine G.fin tab_ok (hr := ?_)
   simp only [oneOrTup]
   congr 1
   unfold szT
   rw [if_neg (by omega)]
def r_szLinkS (xs0 : List A) (rr : A) : Prop := ∃ (ks : List LK) (n : Int), (0 ≤ n) ∧ (n ≤ 1048576) ∧ (ks.length < 2513169434844) ∧ (KW ks) ∧ xs0 = [.row false 5 (ks.map kv), .int .i64 n] ∧ rr = .int .i64 (szT n ks.length (gtot kL ks))
noncomputable def q_szLinkS : List A → Option A := kgr r_szLinkS
theorem k_szLinkS : KOk Tryz.prog (16, q_szLinkS) := kgr_ok (enters_of Tryz.func16 rfl rfl) (by rintro xs0 rr ⟨ks, n, hc1, hc2, hc3, hc4, rfl, rfl⟩; exact szLinkS_ac ks n hc1 hc2 hc3 hc4)
theorem e_szLinkS : ∀ (ks : List LK) (n : Int), (0 ≤ n) → (n ≤ 1048576) → (ks.length < 2513169434844) → (KW ks) → q_szLinkS [.row false 5 (ks.map kv), .int .i64 n] = some (.int .i64 (szT n ks.length (gtot kL ks))) := by
 intro ks n hc1 hc2 hc3 hc4
 refine kgr_eq (fun xs0 rr r2 h h2 => ?_) ⟨ks, n, hc1, hc2, hc3, hc4, rfl, rfl⟩
 obtain ⟨ks1, n1, _, _, _, _, e1, rfl⟩ := h; obtain ⟨ks2, n2, _, _, _, _, e2, rfl⟩ := h2
 rw [e1] at e2
 simp only [List.cons.injEq, A.int.injEq, A.bool.injEq, A.agg.injEq, A.row.injEq, A.fn.injEq, A.rp.injEq, insv_inj, iv_inj, pv_inj, kv_inj, av_inj, true_and, and_true] at e2
 simp [e2]
theorem ok_szNetwork : Kn.ok Tryz.prog (kof [(15, q_szProgramS), (16, q_szLinkS)]) := kof_cons k_szProgramS (kof_cons k_szLinkS ((kof_nil _)))
theorem szNetwork_ac (ps : List PG) (ks : List LK) (n : Int) (hc1 : 0 ≤ n) (hc2 : n ≤ 1048576) (hc3 : NW ps) (hc4 : KW ks) (hc5 : ps.length < 3518437208781) (hc6 : ks.length < 2513169434844) : AC Tryz.prog 4 [.agg [.row false 3 (ps.map pv), .row false 5 (ks.map kv)], .int .i64 n] (.int .i64 (szNet n ps ks)) := by
 have e_szProgramS := e_szProgramS
 have e_szLinkS := e_szLinkS
 refine AC.of tab_ok Tryz.func4 rfl (Nat.le_of_ble_eq_true rfl) fun w0 S0 => ?_
 change G _ _ ⟨[(0, .agg [.row false 3 (ps.map pv), .row false 5 (ks.map kv)]), (1, .int .i64 n)], [], 18⟩
 apply G.seq
 refine G.rg tab_ok ok_szNetwork (hk := ?_)
 apply G.seq
 refine G.rg tab_ok ok_szNetwork (hk := ?_)
 apply G.seq
 apply G.seq
 refine G.rg tab_ok ok_szNetwork (hk := ?_)
 refine G.fg [1, 2, 10] (hk := ?_)
 refine G.iff (h1 := fun h1 => ?_) (h2 := fun h1 => ?_)
 ·try simp only [zqz] at h1
  have hle := szT_le (n := n) (a := ps.length) (b := gtot pL ps) hc2
  apply G.seq
  refine G.rg tab_ok ok_szNetwork (hk := ?_)
  refine G.fin tab_ok (hr := ?_)
  simp only [oneOrTup]
  congr 1
  unfold szNet
  rw [if_pos h1]
 ·try simp only [zqz] at h1
  have hle := szT_le (n := n) (a := ps.length) (b := gtot pL ps) hc2
  apply G.skip
  apply G.seq
  refine G.rg tab_ok ok_szNetwork (hk := ?_)
  apply G.seq
  apply G.seq
  refine G.rg tab_ok ok_szNetwork (hk := ?_)
  refine G.iff (h1 := fun h2 => ?_) (h2 := fun h2 => ?_)
  ·try simp only [zqz] at h2
   apply G.seq
   refine G.rg tab_ok ok_szNetwork (hk := ?_)
   refine G.fin tab_ok (hr := ?_)
   simp only [oneOrTup]
   congr 1
   unfold szNet
   rw [if_neg (by omega), szT_lt h2]
  ·try simp only [zqz] at h2
   apply G.skip
   apply G.seq
   refine G.rg tab_ok ok_szNetwork (hk := ?_)
   refine G.fin tab_ok (hr := ?_)
   simp only [oneOrTup]
   congr 1
   unfold szNet
   rw [if_neg (by omega)]
def r_szNetwork (xs0 : List A) (rr : A) : Prop := ∃ (ps : List PG) (ks : List LK) (n : Int), (0 ≤ n) ∧ (n ≤ 1048576) ∧ (NW ps) ∧ (KW ks) ∧ (ps.length < 3518437208781) ∧ (ks.length < 2513169434844) ∧ xs0 = [.agg [.row false 3 (ps.map pv), .row false 5 (ks.map kv)], .int .i64 n] ∧ rr = .int .i64 (szNet n ps ks)
noncomputable def q_szNetwork : List A → Option A := kgr r_szNetwork
theorem k_szNetwork : KOk Tryz.prog (4, q_szNetwork) := kgr_ok (enters_of Tryz.func4 rfl rfl) (by rintro xs0 rr ⟨ps, ks, n, hc1, hc2, hc3, hc4, hc5, hc6, rfl, rfl⟩; exact szNetwork_ac ps ks n hc1 hc2 hc3 hc4 hc5 hc6)
theorem e_szNetwork : ∀ (ps : List PG) (ks : List LK) (n : Int), (0 ≤ n) → (n ≤ 1048576) → (NW ps) → (KW ks) → (ps.length < 3518437208781) → (ks.length < 2513169434844) → q_szNetwork [.agg [.row false 3 (ps.map pv), .row false 5 (ks.map kv)], .int .i64 n] = some (.int .i64 (szNet n ps ks)) := by
 intro ps ks n hc1 hc2 hc3 hc4 hc5 hc6
 refine kgr_eq (fun xs0 rr r2 h h2 => ?_) ⟨ps, ks, n, hc1, hc2, hc3, hc4, hc5, hc6, rfl, rfl⟩
 obtain ⟨ps1, ks1, n1, _, _, _, _, _, _, e1, rfl⟩ := h; obtain ⟨ps2, ks2, n2, _, _, _, _, _, _, e2, rfl⟩ := h2
 rw [e1] at e2
 simp only [List.cons.injEq, A.int.injEq, A.agg.injEq, A.row.injEq, pv_inj, kv_inj, true_and, and_true] at e2
 obtain ⟨⟨e3, e4⟩, e5⟩ := e2
 subst e3 e4 e5
 rfl
theorem ok_toProgramS : Kn.ok Tryz.prog (kof [(50, q_toProgram)]) := kof_cons k_toProgram ((kof_nil _))
theorem toProgramS_ac (ps : List PG) (hc1 : ps.length < 3518437208781) (hc2 : NW ps) : AC Tryz.prog 22 [.row false 3 (ps.map pv)] (.row true 3 (ps.map opv)) := by
 have e_toProgram := e_toProgram
 have hb1 : (ps.length : Int) ≤ 4611686018427387904 := by omega
 have hb2 : 40 * (ps.length : Int) ≤ 140737488355328 := by omega
 refine AC.of tab_ok Tryz.func22 rfl (Nat.le_of_ble_eq_true rfl) fun w0 S0 => ?_
 change G _ _ ⟨[(0, .row false 3 (ps.map pv))], [], 23⟩
 apply G.seq
 refine G.rg tab_ok ok_toProgramS (hk := ?_)
 apply G.seq
 refine G.rg tab_ok ok_toProgramS (hk := ?_)
 apply G.seq
 apply G.seq
 refine G.rg tab_ok ok_toProgramS (hk := ?_)
 apply G.block
 refine G.cn [0, 3, 4] [0] (h := ?_)
 refine G.loopX (fun j : Nat => ⟨[(0, .row false 3 (ps.map pv)), (3, .sl 0 0 ps.length), (4, .int .i64 j)], [some (3, fillB opv ps [.int .i64 0, .int .i64 0, .nils] j)], 23⟩) (fun j => j ≤ ps.length) (fun j => ps.length - j) (0) (Nat.zero_le _) (by simp [fillB]) ?_
 intro j hj J hJ
 have hw : IntKind.i64.wrap ((j : Int) + 1) = (j : Int) + 1 := wrap64 (by omega) (by omega)
 have hlen := fillB_len opv [.int .i64 0, .int .i64 0, .nils] hj
 apply G.seq
 apply G.seq
 refine G.rg tab_ok ok_toProgramS (hk := ?_)
 refine G.iff (h1 := fun h1 => ?_) (h2 := fun h1 => ?_)
 ·try simp only [zqz] at h1
  apply G.skip
  apply G.seq
  apply G.block
  have hg := fillB_get opv [.int .i64 0, .int .i64 0, .nils] h1
  have hlr : (ps.getD j default).l.length < 4398046511104 := hc2 _ (getD_mem0 h1)
  refine G.rg tab_ok ok_toProgramS (hk := ?_)
  refine G.unfocusFE 0 j 2 1 (f := opv) (l := ps) rfl h1 rfl rfl (by decide) (by simp) (by first | exact pureLL_insv _ | exact pureLL_iv _) rfl ?_
  apply G.blk
  refine G.rg tab_ok ok_toProgramS (hk := ?_)
  have hp := fillB_pure opv [.int .i64 0, .int .i64 0, .nils] (l := ps) (i := j + 1) (fun x => by simp [opv, pureL, pureA, pureLL_insv, pureLL_iv]) rfl
  refine G.cn [0, 3, 4] [0] (h := ?_)
  exact G.upto (hJ (j + 1) (by omega) (by omega)) (by simp)
 ·try simp only [zqz] at h1
  refine G.exit rfl ?_
  apply G.seq
  refine G.rg tab_ok ok_toProgramS (hk := ?_)
  obtain rfl : j = ps.length := by omega
  rw [fillB_full]
  refine G.fin tab_ok (hr := ?_)
  rfl
def r_toProgramS (xs0 : List A) (rr : A) : Prop := ∃ (ps : List PG), (ps.length < 3518437208781) ∧ (NW ps) ∧ xs0 = [.row false 3 (ps.map pv)] ∧ rr = .row true 3 (ps.map opv)
noncomputable def q_toProgramS : List A → Option A := kgr r_toProgramS
theorem k_toProgramS : KOk Tryz.prog (22, q_toProgramS) := kgr_ok (enters_of Tryz.func22 rfl rfl) (by rintro xs0 rr ⟨ps, hc1, hc2, rfl, rfl⟩; exact toProgramS_ac ps hc1 hc2)
theorem e_toProgramS : ∀ (ps : List PG), (ps.length < 3518437208781) → (NW ps) → q_toProgramS [.row false 3 (ps.map pv)] = some (.row true 3 (ps.map opv)) := by
 intro ps hc1 hc2
 refine kgr_eq (fun xs0 rr r2 h h2 => ?_) ⟨ps, hc1, hc2, rfl, rfl⟩
 obtain ⟨ps1, _, _, e1, rfl⟩ := h; obtain ⟨ps2, _, _, e2, rfl⟩ := h2
 rw [e1] at e2
 simp only [List.cons.injEq, A.int.injEq, A.bool.injEq, A.agg.injEq, A.row.injEq, A.fn.injEq, A.rp.injEq, insv_inj, iv_inj, pv_inj, kv_inj, av_inj, true_and, and_true] at e2
 simp [e2]
theorem ok_toLink : Kn.ok Tryz.prog (kof [(53, q_toIntS)]) := kof_cons k_toIntS ((kof_nil _))
theorem toLink_ac (fr : Int) (ou : Int) (to : Int) (ip : Int) (tk : List Int) (hc1 : tk.length < 17592186044416) : AC Tryz.prog 51 [.agg [.int .i64 fr, .int .i64 ou, .int .i64 to, .int .i64 ip, .row false 1 (tk.map iv)]] (.agg [.int .i64 fr, .int .i64 ou, .int .i64 to, .int .i64 ip, .row true 1 (tk.map iv)]) := by
 have e_toIntS := e_toIntS
 refine AC.of tab_ok Tryz.func51 rfl (Nat.le_of_ble_eq_true rfl) fun w0 S0 => ?_
 change G _ _ ⟨[(0, .agg [.int .i64 fr, .int .i64 ou, .int .i64 to, .int .i64 ip, .row false 1 (tk.map iv)])], [], 21⟩
 apply G.seq
 refine G.rg tab_ok ok_toLink (hk := ?_)
 apply G.seq
 refine G.rg tab_ok ok_toLink (hk := ?_)
 apply G.seq
 refine G.rg tab_ok ok_toLink (hk := ?_)
 apply G.seq
 refine G.rg tab_ok ok_toLink (hk := ?_)
 apply G.seq
 refine G.rg tab_ok ok_toLink (hk := ?_)
 apply G.seq
 refine G.rg tab_ok ok_toLink (hk := ?_)
 apply G.seq
 refine G.rg tab_ok ok_toLink (hk := ?_)
 apply G.seq
 refine G.rg tab_ok ok_toLink (hk := ?_)
 refine G.fin tab_ok (hr := ?_)
 rfl
def r_toLink (xs0 : List A) (rr : A) : Prop := ∃ (fr : Int) (ou : Int) (to : Int) (ip : Int) (tk : List Int), (tk.length < 17592186044416) ∧ xs0 = [.agg [.int .i64 fr, .int .i64 ou, .int .i64 to, .int .i64 ip, .row false 1 (tk.map iv)]] ∧ rr = .agg [.int .i64 fr, .int .i64 ou, .int .i64 to, .int .i64 ip, .row true 1 (tk.map iv)]
noncomputable def q_toLink : List A → Option A := kgr r_toLink
theorem k_toLink : KOk Tryz.prog (51, q_toLink) := kgr_ok (enters_of Tryz.func51 rfl rfl) (by rintro xs0 rr ⟨fr, ou, to, ip, tk, hc1, rfl, rfl⟩; exact toLink_ac fr ou to ip tk hc1)
theorem e_toLink : ∀ (fr : Int) (ou : Int) (to : Int) (ip : Int) (tk : List Int), (tk.length < 17592186044416) → q_toLink [.agg [.int .i64 fr, .int .i64 ou, .int .i64 to, .int .i64 ip, .row false 1 (tk.map iv)]] = some (.agg [.int .i64 fr, .int .i64 ou, .int .i64 to, .int .i64 ip, .row true 1 (tk.map iv)]) := by
 intro fr ou to ip tk hc1
 refine kgr_eq (fun xs0 rr r2 h h2 => ?_) ⟨fr, ou, to, ip, tk, hc1, rfl, rfl⟩
 obtain ⟨fr1, ou1, to1, ip1, tk1, _, e1, rfl⟩ := h; obtain ⟨fr2, ou2, to2, ip2, tk2, _, e2, rfl⟩ := h2
 rw [e1] at e2
 simp only [List.cons.injEq, A.int.injEq, A.bool.injEq, A.agg.injEq, A.row.injEq, A.fn.injEq, A.rp.injEq, insv_inj, iv_inj, true_and, and_true] at e2
 simp [e2]
theorem ok_toLinkS : Kn.ok Tryz.prog (kof [(51, q_toLink)]) := kof_cons k_toLink ((kof_nil _))
theorem toLinkS_ac (ks : List LK) (hc1 : ks.length < 2513169434844) (hc2 : KW ks) : AC Tryz.prog 23 [.row false 5 (ks.map kv)] (.row true 5 (ks.map okv)) := by
 have e_toLink := e_toLink
 have hb1 : (ks.length : Int) ≤ 4611686018427387904 := by omega
 have hb2 : 56 * (ks.length : Int) ≤ 140737488355328 := by omega
 refine AC.of tab_ok Tryz.func23 rfl (Nat.le_of_ble_eq_true rfl) fun w0 S0 => ?_
 change G _ _ ⟨[(0, .row false 5 (ks.map kv))], [], 23⟩
 apply G.seq
 refine G.rg tab_ok ok_toLinkS (hk := ?_)
 apply G.seq
 refine G.rg tab_ok ok_toLinkS (hk := ?_)
 apply G.seq
 apply G.seq
 refine G.rg tab_ok ok_toLinkS (hk := ?_)
 apply G.block
 refine G.cn [0, 3, 4] [0] (h := ?_)
 refine G.loopX (fun j : Nat => ⟨[(0, .row false 5 (ks.map kv)), (3, .sl 0 0 ks.length), (4, .int .i64 j)], [some (5, fillB okv ks [.int .i64 0, .int .i64 0, .int .i64 0, .int .i64 0, .nils] j)], 23⟩) (fun j => j ≤ ks.length) (fun j => ks.length - j) (0) (Nat.zero_le _) (by simp [fillB]) ?_
 intro j hj J hJ
 have hw : IntKind.i64.wrap ((j : Int) + 1) = (j : Int) + 1 := wrap64 (by omega) (by omega)
 have hlen := fillB_len okv [.int .i64 0, .int .i64 0, .int .i64 0, .int .i64 0, .nils] hj
 apply G.seq
 apply G.seq
 refine G.rg tab_ok ok_toLinkS (hk := ?_)
 refine G.iff (h1 := fun h1 => ?_) (h2 := fun h1 => ?_)
 ·try simp only [zqz] at h1
  apply G.skip
  apply G.seq
  apply G.block
  have hg := fillB_get okv [.int .i64 0, .int .i64 0, .int .i64 0, .int .i64 0, .nils] h1
  have hlr : (ks.getD j default).tk.length < 17592186044416 := hc2 _ (getD_mem0 h1)
  refine G.rg tab_ok ok_toLinkS (hk := ?_)
  refine G.unfocusFE 0 j 4 1 (f := okv) (l := ks) rfl h1 rfl rfl (by decide) (by simp) (by first | exact pureLL_insv _ | exact pureLL_iv _) rfl ?_
  apply G.blk
  refine G.rg tab_ok ok_toLinkS (hk := ?_)
  have hp := fillB_pure okv [.int .i64 0, .int .i64 0, .int .i64 0, .int .i64 0, .nils] (l := ks) (i := j + 1) (fun x => by simp [okv, pureL, pureA, pureLL_insv, pureLL_iv]) rfl
  refine G.cn [0, 3, 4] [0] (h := ?_)
  exact G.upto (hJ (j + 1) (by omega) (by omega)) (by simp)
 ·try simp only [zqz] at h1
  refine G.exit rfl ?_
  apply G.seq
  refine G.rg tab_ok ok_toLinkS (hk := ?_)
  obtain rfl : j = ks.length := by omega
  rw [fillB_full]
  refine G.fin tab_ok (hr := ?_)
  rfl
def r_toLinkS (xs0 : List A) (rr : A) : Prop := ∃ (ks : List LK), (ks.length < 2513169434844) ∧ (KW ks) ∧ xs0 = [.row false 5 (ks.map kv)] ∧ rr = .row true 5 (ks.map okv)
noncomputable def q_toLinkS : List A → Option A := kgr r_toLinkS
theorem k_toLinkS : KOk Tryz.prog (23, q_toLinkS) := kgr_ok (enters_of Tryz.func23 rfl rfl) (by rintro xs0 rr ⟨ks, hc1, hc2, rfl, rfl⟩; exact toLinkS_ac ks hc1 hc2)
theorem e_toLinkS : ∀ (ks : List LK), (ks.length < 2513169434844) → (KW ks) → q_toLinkS [.row false 5 (ks.map kv)] = some (.row true 5 (ks.map okv)) := by
 intro ks hc1 hc2
 refine kgr_eq (fun xs0 rr r2 h h2 => ?_) ⟨ks, hc1, hc2, rfl, rfl⟩
 obtain ⟨ks1, _, _, e1, rfl⟩ := h; obtain ⟨ks2, _, _, e2, rfl⟩ := h2
 rw [e1] at e2
 simp only [List.cons.injEq, A.int.injEq, A.bool.injEq, A.agg.injEq, A.row.injEq, A.fn.injEq, A.rp.injEq, insv_inj, iv_inj, pv_inj, kv_inj, av_inj, true_and, and_true] at e2
 simp [e2]
theorem ok_toNetwork : Kn.ok Tryz.prog (kof [(22, q_toProgramS), (23, q_toLinkS)]) := kof_cons k_toProgramS (kof_cons k_toLinkS ((kof_nil _)))
theorem toNetwork_ac (ps : List PG) (ks : List LK) (hc1 : NW ps) (hc2 : KW ks) (hc3 : ps.length < 3518437208781) (hc4 : ks.length < 2513169434844) : AC Tryz.prog 7 [.agg [.row false 3 (ps.map pv), .row false 5 (ks.map kv)]] (.agg [.row true 3 (ps.map opv), .row true 5 (ks.map okv)]) := by
 have e_toProgramS := e_toProgramS
 have e_toLinkS := e_toLinkS
 refine AC.of tab_ok Tryz.func7 rfl (Nat.le_of_ble_eq_true rfl) fun w0 S0 => ?_
 change G _ _ ⟨[(0, .agg [.row false 3 (ps.map pv), .row false 5 (ks.map kv)])], [], 13⟩
 apply G.seq
 refine G.rg tab_ok ok_toNetwork (hk := ?_)
 apply G.seq
 refine G.rg tab_ok ok_toNetwork (hk := ?_)
 apply G.seq
 refine G.rg tab_ok ok_toNetwork (hk := ?_)
 apply G.seq
 refine G.rg tab_ok ok_toNetwork (hk := ?_)
 apply G.seq
 refine G.rg tab_ok ok_toNetwork (hk := ?_)
 refine G.fin tab_ok (hr := ?_)
 rfl
def r_toNetwork (xs0 : List A) (rr : A) : Prop := ∃ (ps : List PG) (ks : List LK), (NW ps) ∧ (KW ks) ∧ (ps.length < 3518437208781) ∧ (ks.length < 2513169434844) ∧ xs0 = [.agg [.row false 3 (ps.map pv), .row false 5 (ks.map kv)]] ∧ rr = .agg [.row true 3 (ps.map opv), .row true 5 (ks.map okv)]
noncomputable def q_toNetwork : List A → Option A := kgr r_toNetwork
theorem k_toNetwork : KOk Tryz.prog (7, q_toNetwork) := kgr_ok (enters_of Tryz.func7 rfl rfl) (by rintro xs0 rr ⟨ps, ks, hc1, hc2, hc3, hc4, rfl, rfl⟩; exact toNetwork_ac ps ks hc1 hc2 hc3 hc4)
theorem e_toNetwork : ∀ (ps : List PG) (ks : List LK), (NW ps) → (KW ks) → (ps.length < 3518437208781) → (ks.length < 2513169434844) → q_toNetwork [.agg [.row false 3 (ps.map pv), .row false 5 (ks.map kv)]] = some (.agg [.row true 3 (ps.map opv), .row true 5 (ks.map okv)]) := by
 intro ps ks hc1 hc2 hc3 hc4
 refine kgr_eq (fun xs0 rr r2 h h2 => ?_) ⟨ps, ks, hc1, hc2, hc3, hc4, rfl, rfl⟩
 obtain ⟨ps1, ks1, _, _, _, _, e1, rfl⟩ := h; obtain ⟨ps2, ks2, _, _, _, _, e2, rfl⟩ := h2
 rw [e1] at e2
 simp only [List.cons.injEq, A.int.injEq, A.bool.injEq, A.agg.injEq, A.row.injEq, pv_inj, kv_inj, true_and, and_true] at e2
 obtain ⟨e3, e4⟩ := e2
 subst e3 e4
 rfl
theorem ok_eqProgramS : Kn.ok Tryz.prog (kof [(62, q_eqProgram)]) := kof_cons k_eqProgram ((kof_nil _))
theorem eqProgramS_ac (ps : List PG) (ps' : List PG) (hc1 : NW ps) (hc2 : NW ps') (hc3 : ps.length < 3518437208781) : AC Tryz.prog 31 [.row false 3 (ps.map pv), .row false 3 (ps'.map pv)] (.bool (decide (ps = ps'))) := by
 have e_eqProgram := e_eqProgram
 refine AC.of tab_ok Tryz.func31 rfl (Nat.le_of_ble_eq_true rfl) fun w0 S0 => ?_
 change G _ _ ⟨[(0, .row false 3 (ps.map pv)), (1, .row false 3 (ps'.map pv))], [], 27⟩
 apply G.seq
 refine G.rg tab_ok ok_eqProgramS (hk := ?_)
 apply G.seq
 apply G.seq
 refine G.rg tab_ok ok_eqProgramS (hk := ?_)
 refine G.iff (h1 := fun h1 => ?_) (h2 := fun h1 => ?_)
 ·try simp only [zqz] at h1
  apply G.seq
  refine G.rg tab_ok ok_eqProgramS (hk := ?_)
  refine G.fin tab_ok (hr := ?_)
  simp only [oneOrTup]
  congr 1
  symm
  rw [decide_eq_false_iff_not]
  intro e
  exact h1 (by rw [e])
 ·try simp only [zqz] at h1
  apply G.skip
  apply G.seq
  apply G.seq
  refine G.rg tab_ok ok_eqProgramS (hk := ?_)
  apply G.block
  refine G.cn [0, 1, 5] [] (h := ?_)
  refine G.loopX (fun j : Nat => ⟨[(0, .row false 3 (ps.map pv)), (1, .row false 3 (ps'.map pv)), (5, .int .i64 j)], [], 27⟩) (fun j => j ≤ ps.length ∧ ∀ k < j, ps.getD k default = ps'.getD k default) (fun j => ps.length - j) (0) (⟨Nat.zero_le _, by omega⟩) (by simp) ?_
  intro j hj J hJ
  obtain ⟨hj, hall⟩ := hj
  have hw : IntKind.i64.wrap ((j : Int) + 1) = (j : Int) + 1 := wrap64 (by omega) (by omega)
  apply G.seq
  apply G.seq
  refine G.rg tab_ok ok_eqProgramS (hk := ?_)
  refine G.iff (h1 := fun h2 => ?_) (h2 := fun h2 => ?_)
  ·try simp only [zqz] at h2
   apply G.skip
   apply G.seq
   apply G.block
   apply G.seq
   have h1m : j < ps'.length := by omega
   have h1l : j < ps.length := by omega
   have hlr := hc1 _ (getD_mem0 h1l)
   have hlm := hc2 _ (getD_mem0 h1m)
   refine G.dr mixed tab_ok ok_eqProgramS [0, 1, 2, 3, 4, 5, 6, 7, 8, 9] (hk := ?_)
   refine G.fg [0, 1, 5, 26] (hk := ?_)
   refine G.iff (h1 := fun h3 => ?_) (h2 := fun h3 => ?_)
   ·try simp only [zqz] at h3
    apply G.seq
    refine G.rg tab_ok ok_eqProgramS (hk := ?_)
    refine G.fin tab_ok (hr := ?_)
    simp only [oneOrTup]
    congr 1
    symm
    rw [decide_eq_false_iff_not]
    intro e
    exact h3 (pg_ext.2 (by rw [e]))
   ·try simp only [zqz] at h3
    apply G.skip
    apply G.blk
    refine G.rg tab_ok ok_eqProgramS (hk := ?_)
    refine G.cn [0, 1, 5] [] (h := ?_)
    exact G.upto (hJ (j + 1) ⟨by omega, geq_upto hall (pg_ext.1 h3)⟩ (by omega)) (by simp)
  ·try simp only [zqz] at h2
   refine G.exit rfl ?_
   apply G.seq
   refine G.rg tab_ok ok_eqProgramS (hk := ?_)
   refine G.fin tab_ok (hr := ?_)
   simp only [oneOrTup]
   congr 1
   symm
   rw [decide_eq_true_eq]
   exact geq_all (by omega) (fun k hk => hall k (by omega))
def r_eqProgramS (xs0 : List A) (rr : A) : Prop := ∃ (ps : List PG) (ps' : List PG), (NW ps) ∧ (NW ps') ∧ (ps.length < 3518437208781) ∧ xs0 = [.row false 3 (ps.map pv), .row false 3 (ps'.map pv)] ∧ rr = .bool (decide (ps = ps'))
noncomputable def q_eqProgramS : List A → Option A := kgr r_eqProgramS
theorem k_eqProgramS : KOk Tryz.prog (31, q_eqProgramS) := kgr_ok (enters_of Tryz.func31 rfl rfl) (by rintro xs0 rr ⟨ps, ps', hc1, hc2, hc3, rfl, rfl⟩; exact eqProgramS_ac ps ps' hc1 hc2 hc3)
theorem e_eqProgramS : ∀ (ps : List PG) (ps' : List PG), (NW ps) → (NW ps') → (ps.length < 3518437208781) → q_eqProgramS [.row false 3 (ps.map pv), .row false 3 (ps'.map pv)] = some (.bool (decide (ps = ps'))) := by
 intro ps ps' hc1 hc2 hc3
 refine kgr_eq (fun xs0 rr r2 h h2 => ?_) ⟨ps, ps', hc1, hc2, hc3, rfl, rfl⟩
 obtain ⟨ps1, ps'1, _, _, _, e1, rfl⟩ := h; obtain ⟨ps2, ps'2, _, _, _, e2, rfl⟩ := h2
 rw [e1] at e2
 simp only [List.cons.injEq, A.int.injEq, A.bool.injEq, A.agg.injEq, A.row.injEq, A.fn.injEq, A.rp.injEq, insv_inj, iv_inj, pv_inj, kv_inj, av_inj, true_and, and_true] at e2
 simp [e2]
theorem ok_eqLink : Kn.ok Tryz.prog (kof [(61, q_eqIntS)]) := kof_cons k_eqIntS ((kof_nil _))
theorem eqLink_ac (fr : Int) (ou : Int) (to : Int) (ip : Int) (tk : List Int) (fr' : Int) (ou' : Int) (to' : Int) (ip' : Int) (tk' : List Int) (hc1 : tk.length < 17592186044416) (hc2 : tk'.length < 17592186044416) : AC Tryz.prog 63 [.agg [.int .i64 fr, .int .i64 ou, .int .i64 to, .int .i64 ip, .row false 1 (tk.map iv)], .agg [.int .i64 fr', .int .i64 ou', .int .i64 to', .int .i64 ip', .row false 1 (tk'.map iv)]] (.bool (decide ((fr, ou, to, ip, tk) = (fr', ou', to', ip', tk')))) := by
 have e_eqIntS := e_eqIntS
 refine AC.of tab_ok Tryz.func63 rfl (Nat.le_of_ble_eq_true rfl) fun w0 S0 => ?_
 change G _ _ ⟨[(0, .agg [.int .i64 fr, .int .i64 ou, .int .i64 to, .int .i64 ip, .row false 1 (tk.map iv)]), (1, .agg [.int .i64 fr', .int .i64 ou', .int .i64 to', .int .i64 ip', .row false 1 (tk'.map iv)])], [], 31⟩
 apply G.seq
 refine G.rg tab_ok ok_eqLink (hk := ?_)
 apply G.seq
 apply G.seq
 refine G.rg tab_ok ok_eqLink (hk := ?_)
 refine G.iff (h1 := fun h1 => ?_) (h2 := fun h1 => ?_)
 ·try simp only [zqz] at h1
  apply G.seq
  refine G.rg tab_ok ok_eqLink (hk := ?_)
  refine G.fin tab_ok (hr := ?_)
  simp [oneOrTup, *]
 ·try simp only [zqz] at h1
  apply G.skip
  apply G.seq
  apply G.seq
  refine G.rg tab_ok ok_eqLink (hk := ?_)
  refine G.fg [2, 3, 14] (hk := ?_)
  refine G.iff (h1 := fun h2 => ?_) (h2 := fun h2 => ?_)
  ·try simp only [zqz] at h2
   apply G.seq
   refine G.rg tab_ok ok_eqLink (hk := ?_)
   refine G.fin tab_ok (hr := ?_)
   simp [oneOrTup, *]
  ·try simp only [zqz] at h2
   apply G.skip
   apply G.seq
   apply G.seq
   refine G.rg tab_ok ok_eqLink (hk := ?_)
   refine G.iff (h1 := fun h3 => ?_) (h2 := fun h3 => ?_)
   ·try simp only [zqz] at h3
    apply G.seq
    refine G.rg tab_ok ok_eqLink (hk := ?_)
    refine G.fin tab_ok (hr := ?_)
    simp [oneOrTup, *]
   ·try simp only [zqz] at h3
    apply G.skip
    apply G.seq
    apply G.seq
    refine G.rg tab_ok ok_eqLink (hk := ?_)
    refine G.fg [2, 3, 24] (hk := ?_)
    refine G.iff (h1 := fun h4 => ?_) (h2 := fun h4 => ?_)
    ·try simp only [zqz] at h4
     apply G.seq
     refine G.rg tab_ok ok_eqLink (hk := ?_)
     refine G.fin tab_ok (hr := ?_)
     simp [oneOrTup, *]
    ·try simp only [zqz] at h4
     apply G.skip
     apply G.seq
     apply G.seq
     refine G.rg tab_ok ok_eqLink (hk := ?_)
     refine G.iff (h1 := fun h5 => ?_) (h2 := fun h5 => ?_)
     ·try simp only [zqz] at h5
      apply G.seq
      refine G.rg tab_ok ok_eqLink (hk := ?_)
      refine G.fin tab_ok (hr := ?_)
      simp [oneOrTup, *]
     ·try simp only [zqz] at h5
      apply G.skip
      apply G.seq
      refine G.rg tab_ok ok_eqLink (hk := ?_)
      refine G.fin tab_ok (hr := ?_)
      simp [oneOrTup, *]
def r_eqLink (xs0 : List A) (rr : A) : Prop := ∃ (fr : Int) (ou : Int) (to : Int) (ip : Int) (tk : List Int) (fr' : Int) (ou' : Int) (to' : Int) (ip' : Int) (tk' : List Int), (tk.length < 17592186044416) ∧ (tk'.length < 17592186044416) ∧ xs0 = [.agg [.int .i64 fr, .int .i64 ou, .int .i64 to, .int .i64 ip, .row false 1 (tk.map iv)], .agg [.int .i64 fr', .int .i64 ou', .int .i64 to', .int .i64 ip', .row false 1 (tk'.map iv)]] ∧ rr = .bool (decide ((fr, ou, to, ip, tk) = (fr', ou', to', ip', tk')))
noncomputable def q_eqLink : List A → Option A := kgr r_eqLink
theorem k_eqLink : KOk Tryz.prog (63, q_eqLink) := kgr_ok (enters_of Tryz.func63 rfl rfl) (by rintro xs0 rr ⟨fr, ou, to, ip, tk, fr', ou', to', ip', tk', hc1, hc2, rfl, rfl⟩; exact eqLink_ac fr ou to ip tk fr' ou' to' ip' tk' hc1 hc2)
theorem e_eqLink : ∀ (fr : Int) (ou : Int) (to : Int) (ip : Int) (tk : List Int) (fr' : Int) (ou' : Int) (to' : Int) (ip' : Int) (tk' : List Int), (tk.length < 17592186044416) → (tk'.length < 17592186044416) → q_eqLink [.agg [.int .i64 fr, .int .i64 ou, .int .i64 to, .int .i64 ip, .row false 1 (tk.map iv)], .agg [.int .i64 fr', .int .i64 ou', .int .i64 to', .int .i64 ip', .row false 1 (tk'.map iv)]] = some (.bool (decide ((fr, ou, to, ip, tk) = (fr', ou', to', ip', tk')))) := by
 intro fr ou to ip tk fr' ou' to' ip' tk' hc1 hc2
 refine kgr_eq (fun xs0 rr r2 h h2 => ?_) ⟨fr, ou, to, ip, tk, fr', ou', to', ip', tk', hc1, hc2, rfl, rfl⟩
 obtain ⟨fr1, ou1, to1, ip1, tk1, fr'1, ou'1, to'1, ip'1, tk'1, _, _, e1, rfl⟩ := h; obtain ⟨fr2, ou2, to2, ip2, tk2, fr'2, ou'2, to'2, ip'2, tk'2, _, _, e2, rfl⟩ := h2
 rw [e1] at e2
 simp only [List.cons.injEq, A.int.injEq, A.bool.injEq, A.agg.injEq, A.row.injEq, A.fn.injEq, A.rp.injEq, insv_inj, iv_inj, true_and, and_true] at e2
 simp [e2]
theorem ok_eqLinkS : Kn.ok Tryz.prog (kof [(63, q_eqLink)]) := kof_cons k_eqLink ((kof_nil _))
theorem eqLinkS_ac (ks : List LK) (ks' : List LK) (hc1 : KW ks) (hc2 : KW ks') (hc3 : ks.length < 2513169434844) : AC Tryz.prog 32 [.row false 5 (ks.map kv), .row false 5 (ks'.map kv)] (.bool (decide (ks = ks'))) := by
 have e_eqLink := e_eqLink
 refine AC.of tab_ok Tryz.func32 rfl (Nat.le_of_ble_eq_true rfl) fun w0 S0 => ?_
 change G _ _ ⟨[(0, .row false 5 (ks.map kv)), (1, .row false 5 (ks'.map kv))], [], 27⟩
 apply G.seq
 refine G.rg tab_ok ok_eqLinkS (hk := ?_)
 apply G.seq
 apply G.seq
 refine G.rg tab_ok ok_eqLinkS (hk := ?_)
 refine G.iff (h1 := fun h1 => ?_) (h2 := fun h1 => ?_)
 ·try simp only [zqz] at h1
  apply G.seq
  refine G.rg tab_ok ok_eqLinkS (hk := ?_)
  refine G.fin tab_ok (hr := ?_)
  simp only [oneOrTup]
  congr 1
  symm
  rw [decide_eq_false_iff_not]
  intro e
  exact h1 (by rw [e])
 ·try simp only [zqz] at h1
  apply G.skip
  apply G.seq
  apply G.seq
  refine G.rg tab_ok ok_eqLinkS (hk := ?_)
  apply G.block
  refine G.cn [0, 1, 5] [] (h := ?_)
  refine G.loopX (fun j : Nat => ⟨[(0, .row false 5 (ks.map kv)), (1, .row false 5 (ks'.map kv)), (5, .int .i64 j)], [], 27⟩) (fun j => j ≤ ks.length ∧ ∀ k < j, ks.getD k default = ks'.getD k default) (fun j => ks.length - j) (0) (⟨Nat.zero_le _, by omega⟩) (by simp) ?_
  intro j hj J hJ
  obtain ⟨hj, hall⟩ := hj
  have hw : IntKind.i64.wrap ((j : Int) + 1) = (j : Int) + 1 := wrap64 (by omega) (by omega)
  apply G.seq
  apply G.seq
  refine G.rg tab_ok ok_eqLinkS (hk := ?_)
  refine G.iff (h1 := fun h2 => ?_) (h2 := fun h2 => ?_)
  ·try simp only [zqz] at h2
   apply G.skip
   apply G.seq
   apply G.block
   apply G.seq
   have h1m : j < ks'.length := by omega
   have h1l : j < ks.length := by omega
   have hlr := hc1 _ (getD_mem0 h1l)
   have hlm := hc2 _ (getD_mem0 h1m)
   refine G.dr mixed tab_ok ok_eqLinkS [0, 1, 2, 3, 4, 5, 6, 7, 8, 9] (hk := ?_)
   refine G.fg [0, 1, 5, 26] (hk := ?_)
   refine G.iff (h1 := fun h3 => ?_) (h2 := fun h3 => ?_)
   ·try simp only [zqz] at h3
    apply G.seq
    refine G.rg tab_ok ok_eqLinkS (hk := ?_)
    refine G.fin tab_ok (hr := ?_)
    simp only [oneOrTup]
    congr 1
    symm
    rw [decide_eq_false_iff_not]
    intro e
    exact h3 (lk_ext.2 (by rw [e]))
   ·try simp only [zqz] at h3
    apply G.skip
    apply G.blk
    refine G.rg tab_ok ok_eqLinkS (hk := ?_)
    refine G.cn [0, 1, 5] [] (h := ?_)
    exact G.upto (hJ (j + 1) ⟨by omega, geq_upto hall (lk_ext.1 h3)⟩ (by omega)) (by simp)
  ·try simp only [zqz] at h2
   refine G.exit rfl ?_
   apply G.seq
   refine G.rg tab_ok ok_eqLinkS (hk := ?_)
   refine G.fin tab_ok (hr := ?_)
   simp only [oneOrTup]
   congr 1
   symm
   rw [decide_eq_true_eq]
   exact geq_all (by omega) (fun k hk => hall k (by omega))
def r_eqLinkS (xs0 : List A) (rr : A) : Prop := ∃ (ks : List LK) (ks' : List LK), (KW ks) ∧ (KW ks') ∧ (ks.length < 2513169434844) ∧ xs0 = [.row false 5 (ks.map kv), .row false 5 (ks'.map kv)] ∧ rr = .bool (decide (ks = ks'))
noncomputable def q_eqLinkS : List A → Option A := kgr r_eqLinkS
theorem k_eqLinkS : KOk Tryz.prog (32, q_eqLinkS) := kgr_ok (enters_of Tryz.func32 rfl rfl) (by rintro xs0 rr ⟨ks, ks', hc1, hc2, hc3, rfl, rfl⟩; exact eqLinkS_ac ks ks' hc1 hc2 hc3)
theorem e_eqLinkS : ∀ (ks : List LK) (ks' : List LK), (KW ks) → (KW ks') → (ks.length < 2513169434844) → q_eqLinkS [.row false 5 (ks.map kv), .row false 5 (ks'.map kv)] = some (.bool (decide (ks = ks'))) := by
 intro ks ks' hc1 hc2 hc3
 refine kgr_eq (fun xs0 rr r2 h h2 => ?_) ⟨ks, ks', hc1, hc2, hc3, rfl, rfl⟩
 obtain ⟨ks1, ks'1, _, _, _, e1, rfl⟩ := h; obtain ⟨ks2, ks'2, _, _, _, e2, rfl⟩ := h2
 rw [e1] at e2
 simp only [List.cons.injEq, A.int.injEq, A.bool.injEq, A.agg.injEq, A.row.injEq, A.fn.injEq, A.rp.injEq, insv_inj, iv_inj, pv_inj, kv_inj, av_inj, true_and, and_true] at e2
 simp [e2]
theorem ok_eqNetwork : Kn.ok Tryz.prog (kof [(31, q_eqProgramS), (32, q_eqLinkS)]) := kof_cons k_eqProgramS (kof_cons k_eqLinkS ((kof_nil _)))
theorem eqNetwork_ac (ps : List PG) (ks : List LK) (ps' : List PG) (ks' : List LK) (hc1 : NW ps) (hc2 : KW ks) (hc3 : ps.length < 3518437208781) (hc4 : ks.length < 2513169434844) (hc5 : NW ps') (hc6 : KW ks') : AC Tryz.prog 11 [.agg [.row false 3 (ps.map pv), .row false 5 (ks.map kv)], .agg [.row false 3 (ps'.map pv), .row false 5 (ks'.map kv)]] (.bool (decide (ps = ps') && decide (ks = ks'))) := by
 have e_eqProgramS := e_eqProgramS
 have e_eqLinkS := e_eqLinkS
 refine AC.of tab_ok Tryz.func11 rfl (Nat.le_of_ble_eq_true rfl) fun w0 S0 => ?_
 change G _ _ ⟨[(0, .agg [.row false 3 (ps.map pv), .row false 5 (ks.map kv)]), (1, .agg [.row false 3 (ps'.map pv), .row false 5 (ks'.map kv)])], [], 17⟩
 apply G.seq
 refine G.rg tab_ok ok_eqNetwork (hk := ?_)
 apply G.seq
 apply G.seq
 refine G.rg tab_ok ok_eqNetwork (hk := ?_)
 refine G.fg [2, 3, 10] (hk := ?_)
 refine G.iff (h1 := fun h1 => ?_) (h2 := fun h1 => ?_)
 ·try simp only [zqz] at h1
  apply G.seq
  refine G.rg tab_ok ok_eqNetwork (hk := ?_)
  refine G.fin tab_ok (hr := ?_)
  simp [oneOrTup, *]
 ·try simp only [zqz] at h1
  apply G.skip
  apply G.seq
  apply G.seq
  refine G.rg tab_ok ok_eqNetwork (hk := ?_)
  refine G.iff (h1 := fun h2 => ?_) (h2 := fun h2 => ?_)
  ·try simp only [zqz] at h2
   apply G.seq
   refine G.rg tab_ok ok_eqNetwork (hk := ?_)
   refine G.fin tab_ok (hr := ?_)
   simp [oneOrTup, *]
  ·try simp only [zqz] at h2
   apply G.skip
   apply G.seq
   refine G.rg tab_ok ok_eqNetwork (hk := ?_)
   refine G.fin tab_ok (hr := ?_)
   simp [oneOrTup, *]
def r_eqNetwork (xs0 : List A) (rr : A) : Prop := ∃ (ps : List PG) (ks : List LK) (ps' : List PG) (ks' : List LK), (NW ps) ∧ (KW ks) ∧ (ps.length < 3518437208781) ∧ (ks.length < 2513169434844) ∧ (NW ps') ∧ (KW ks') ∧ xs0 = [.agg [.row false 3 (ps.map pv), .row false 5 (ks.map kv)], .agg [.row false 3 (ps'.map pv), .row false 5 (ks'.map kv)]] ∧ rr = .bool (decide (ps = ps') && decide (ks = ks'))
noncomputable def q_eqNetwork : List A → Option A := kgr r_eqNetwork
theorem k_eqNetwork : KOk Tryz.prog (11, q_eqNetwork) := kgr_ok (enters_of Tryz.func11 rfl rfl) (by rintro xs0 rr ⟨ps, ks, ps', ks', hc1, hc2, hc3, hc4, hc5, hc6, rfl, rfl⟩; exact eqNetwork_ac ps ks ps' ks' hc1 hc2 hc3 hc4 hc5 hc6)
theorem e_eqNetwork : ∀ (ps : List PG) (ks : List LK) (ps' : List PG) (ks' : List LK), (NW ps) → (KW ks) → (ps.length < 3518437208781) → (ks.length < 2513169434844) → (NW ps') → (KW ks') → q_eqNetwork [.agg [.row false 3 (ps.map pv), .row false 5 (ks.map kv)], .agg [.row false 3 (ps'.map pv), .row false 5 (ks'.map kv)]] = some (.bool (decide (ps = ps') && decide (ks = ks'))) := by
 intro ps ks ps' ks' hc1 hc2 hc3 hc4 hc5 hc6
 refine kgr_eq (fun xs0 rr r2 h h2 => ?_) ⟨ps, ks, ps', ks', hc1, hc2, hc3, hc4, hc5, hc6, rfl, rfl⟩
 obtain ⟨ps1, ks1, ps'1, ks'1, _, _, _, _, _, _, e1, rfl⟩ := h; obtain ⟨ps2, ks2, ps'2, ks'2, _, _, _, _, _, _, e2, rfl⟩ := h2
 rw [e1] at e2
 simp only [List.cons.injEq, A.agg.injEq, A.row.injEq, pv_inj, kv_inj, true_and, and_true] at e2
 obtain ⟨⟨e3, e4⟩, e5, e6⟩ := e2
 subst e3 e4 e5 e6
 rfl
end Go.Proofs.YtdcjlemkegifjaaGreat.Ab
