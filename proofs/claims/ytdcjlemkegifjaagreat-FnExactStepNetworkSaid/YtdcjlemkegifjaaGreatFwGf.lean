/- Walks of functions of the program, and the plain definitions. -/
import Derived.Test.YtdcjlemkegifjaaGreatFwGd
namespace Go.Proofs.YtdcjlemkegifjaaGreat.Ab
open Go
set_option linter.unusedVariables false
set_option linter.unusedSimpArgs false
set_option maxHeartbeats 4000000
theorem specWrap_ac (n : Int)  : AC Tryz.prog 92 [.int .i64 n] (.int .i64 (wrapT n)) := by
 have ht := tmod_lt n 1999999 (by omega)
 have hw1 : IntKind.i64.wrap (n.tmod 1999999 - 1999999) = n.tmod 1999999 - 1999999 := wrap64 (by omega) (by omega)
 have hw2 : IntKind.i64.wrap (n.tmod 1999999 + 1999999) = n.tmod 1999999 + 1999999 := wrap64 (by omega) (by omega)
 refine AC.of tab_ok Tryz.func92 rfl (Nat.le_of_ble_eq_true rfl) fun w0 S0 => ?_
 change G _ _ ⟨[(0, .int .i64 n)], [], 15⟩
 apply G.seq
 refine G.rg tab_ok (kof_nil _) (hk := ?_)
 apply G.seq
 refine G.rg tab_ok (kof_nil _) (hk := ?_)
 apply G.seq
 apply G.seq
 refine G.rg tab_ok (kof_nil _) (hk := ?_)
 refine G.iff (h1 := fun h1 => ?_) (h2 := fun h1 => ?_)
 ·try simp only [zqz] at h1
  refine G.rg tab_ok (kof_nil _) (hk := ?_)
  apply G.seq
  apply G.seq
  refine G.rg tab_ok (kof_nil _) (hk := ?_)
  refine G.fg [3, 11] (hk := ?_)
  refine G.iff (h1 := fun h2 => ?_) (h2 := fun h2 => ?_)
  ·try simp only [zqz] at h2
   refine G.rg tab_ok (kof_nil _) (hk := ?_)
   apply G.seq
   refine G.rg tab_ok (kof_nil _) (hk := ?_)
   refine G.fin tab_ok (hr := ?_)
   simp only [oneOrTup, wrapT]
   congr 1
   repeat' split
   all_goals omega
  ·try simp only [zqz] at h2
   apply G.skip
   apply G.seq
   refine G.rg tab_ok (kof_nil _) (hk := ?_)
   refine G.fin tab_ok (hr := ?_)
   simp only [oneOrTup, wrapT]
   congr 1
   repeat' split
   all_goals omega
 ·try simp only [zqz] at h1
  apply G.skip
  apply G.seq
  apply G.seq
  refine G.rg tab_ok (kof_nil _) (hk := ?_)
  refine G.iff (h1 := fun h3 => ?_) (h2 := fun h3 => ?_)
  ·try simp only [zqz] at h3
   refine G.rg tab_ok (kof_nil _) (hk := ?_)
   apply G.seq
   refine G.rg tab_ok (kof_nil _) (hk := ?_)
   refine G.fin tab_ok (hr := ?_)
   simp only [oneOrTup, wrapT]
   congr 1
   repeat' split
   all_goals omega
  ·try simp only [zqz] at h3
   apply G.skip
   apply G.seq
   refine G.rg tab_ok (kof_nil _) (hk := ?_)
   refine G.fin tab_ok (hr := ?_)
   simp only [oneOrTup, wrapT]
   congr 1
   repeat' split
   all_goals omega
def r_specWrap (xs0 : List A) (rr : A) : Prop := ∃ (n : Int), xs0 = [.int .i64 n] ∧ rr = .int .i64 (wrapT n)
noncomputable def q_specWrap : List A → Option A := kgr r_specWrap
theorem k_specWrap : KOk Tryz.prog (92, q_specWrap) := kgr_ok (enters_of Tryz.func92 rfl rfl) (by rintro xs0 rr ⟨n, rfl, rfl⟩; exact specWrap_ac n)
theorem e_specWrap : ∀ (n : Int), q_specWrap [.int .i64 n] = some (.int .i64 (wrapT n)) := by
 intro n
 refine kgr_eq (fun xs0 rr r2 h h2 => ?_) ⟨n, rfl, rfl⟩
 obtain ⟨n1, e1, rfl⟩ := h; obtain ⟨n2, e2, rfl⟩ := h2
 rw [e1] at e2
 simp only [List.cons.injEq, A.int.injEq, A.bool.injEq, A.agg.injEq, A.row.injEq, A.fn.injEq, A.rp.injEq, insv_inj, iv_inj, true_and, and_true] at e2
 simp [e2]
theorem implWrap_ac (n : Int)  : AC Tryz.prog 86 [.int .i64 n] (.int .i64 (wrapT n)) := by
 have ht := tmod_lt n 1999999 (by omega)
 have hw1 : IntKind.i64.wrap (n.tmod 1999999 - 1999999) = n.tmod 1999999 - 1999999 := wrap64 (by omega) (by omega)
 have hw2 : IntKind.i64.wrap (n.tmod 1999999 + 1999999) = n.tmod 1999999 + 1999999 := wrap64 (by omega) (by omega)
 refine AC.of tab_ok Tryz.func86 rfl (Nat.le_of_ble_eq_true rfl) fun w0 S0 => ?_
 change G _ _ ⟨[(0, .int .i64 n)], [], 16⟩
 apply G.seq
 refine G.rg tab_ok (kof_nil _) (hk := ?_)
 apply G.seq
 refine G.rg tab_ok (kof_nil _) (hk := ?_)
 apply G.seq
 apply G.block
 apply G.seq
 refine G.rg tab_ok (kof_nil _) (hk := ?_)
 refine G.iff (h1 := fun h1 => ?_) (h2 := fun h1 => ?_)
 ·try simp only [zqz] at h1
  apply G.seq
  refine G.rg tab_ok (kof_nil _) (hk := ?_)
  refine G.fin tab_ok (hr := ?_)
  simp only [oneOrTup, wrapT]
  congr 1
  repeat' split
  all_goals omega
 ·try simp only [zqz] at h1
  apply G.seq
  refine G.rg tab_ok (kof_nil _) (hk := ?_)
  refine G.fg [0, 10] (hk := ?_)
  refine G.iff (h1 := fun h2 => ?_) (h2 := fun h2 => ?_)
  ·try simp only [zqz] at h2
   apply G.seq
   refine G.rg tab_ok (kof_nil _) (hk := ?_)
   refine G.fin tab_ok (hr := ?_)
   simp only [oneOrTup, wrapT]
   congr 1
   repeat' split
   all_goals omega
  ·try simp only [zqz] at h2
   apply G.skip
   apply G.blk
   apply G.seq
   refine G.rg tab_ok (kof_nil _) (hk := ?_)
   refine G.fin tab_ok (hr := ?_)
   simp only [oneOrTup, wrapT]
   congr 1
   repeat' split
   all_goals omega
def r_implWrap (xs0 : List A) (rr : A) : Prop := ∃ (n : Int), xs0 = [.int .i64 n] ∧ rr = .int .i64 (wrapT n)
noncomputable def q_implWrap : List A → Option A := kgr r_implWrap
theorem k_implWrap : KOk Tryz.prog (86, q_implWrap) := kgr_ok (enters_of Tryz.func86 rfl rfl) (by rintro xs0 rr ⟨n, rfl, rfl⟩; exact implWrap_ac n)
theorem e_implWrap : ∀ (n : Int), q_implWrap [.int .i64 n] = some (.int .i64 (wrapT n)) := by
 intro n
 refine kgr_eq (fun xs0 rr r2 h h2 => ?_) ⟨n, rfl, rfl⟩
 obtain ⟨n1, e1, rfl⟩ := h; obtain ⟨n2, e2, rfl⟩ := h2
 rw [e1] at e2
 simp only [List.cons.injEq, A.int.injEq, A.bool.injEq, A.agg.injEq, A.row.injEq, A.fn.injEq, A.rp.injEq, insv_inj, iv_inj, true_and, and_true] at e2
 simp [e2]
theorem l2Rest_ac (x : Int) (c : Int) (hc1 : -999999 ≤ c ∧ c ≤ 999999) : AC Tryz.prog 93 [.int .i64 x, .int .i64 c] (.int .i64 (restT x c)) := by
 have hm : 0 ≤ max c (-c) ∧ max c (-c) ≤ 999999 := by omega
 have hn : IntKind.i64.wrap (0 - c) = -c := by rw [Int.zero_sub]; exact wrap64 (by omega) (by omega)
 have hmx : (if -c > c then -c else c) = max c (-c) := by split <;> omega
 refine AC.of tab_ok Tryz.func93 rfl (Nat.le_of_ble_eq_true rfl) fun w0 S0 => ?_
 change G _ _ ⟨[(0, .int .i64 x), (1, .int .i64 c)], [], 21⟩
 apply G.seq
 refine G.rg tab_ok (kof_nil _) (hk := ?_)
 apply G.seq
 refine G.rg tab_ok (kof_nil _) (hk := ?_)
 apply G.seq
 apply G.seq
 refine G.rg tab_ok (kof_nil _) (hk := ?_)
 refine G.iff (h1 := fun h1 => ?_) (h2 := fun h1 => ?_)
 ·try simp only [zqz] at h1
  apply G.seq
  refine G.rg tab_ok (kof_nil _) (hk := ?_)
  refine G.fin tab_ok (hr := ?_)
  have e : c = 0 := by omega
  simp only [oneOrTup, restT, e, if_true]
 ·try simp only [zqz] at h1
  apply G.skip
  apply G.seq
  have hz : ¬ max c (-c) = 0 := h1
  have ht := tmod_lt x (max c (-c)) (by omega)
  have hw : IntKind.i64.wrap (x.tmod (max c (-c)) + max c (-c)) = x.tmod (max c (-c)) + max c (-c) := wrap64 (by omega) (by omega)
  refine G.rg tab_ok (kof_nil _) (hk := ?_)
  apply G.seq
  apply G.seq
  refine G.rg tab_ok (kof_nil _) (hk := ?_)
  refine G.fg [1, 5, 16] (hk := ?_)
  refine G.iff (h1 := fun h2 => ?_) (h2 := fun h2 => ?_)
  ·try simp only [zqz] at h2
   refine G.rg tab_ok (kof_nil _) (hk := ?_)
   apply G.seq
   refine G.rg tab_ok (kof_nil _) (hk := ?_)
   refine G.fin tab_ok (hr := ?_)
   have e : c ≠ 0 := by omega
   simp only [oneOrTup, restT, e, if_false, h2, if_true]
  ·try simp only [zqz] at h2
   apply G.skip
   apply G.seq
   refine G.rg tab_ok (kof_nil _) (hk := ?_)
   refine G.fin tab_ok (hr := ?_)
   have e : c ≠ 0 := by omega
   have h2 : ¬ x.tmod (max c (-c)) < 0 := by omega
   simp only [oneOrTup, restT, e, if_false, h2]
def r_l2Rest (xs0 : List A) (rr : A) : Prop := ∃ (x : Int) (c : Int), (-999999 ≤ c ∧ c ≤ 999999) ∧ xs0 = [.int .i64 x, .int .i64 c] ∧ rr = .int .i64 (restT x c)
noncomputable def q_l2Rest : List A → Option A := kgr r_l2Rest
theorem k_l2Rest : KOk Tryz.prog (93, q_l2Rest) := kgr_ok (enters_of Tryz.func93 rfl rfl) (by rintro xs0 rr ⟨x, c, hc1, rfl, rfl⟩; exact l2Rest_ac x c hc1)
theorem e_l2Rest : ∀ (x : Int) (c : Int), (-999999 ≤ c ∧ c ≤ 999999) → q_l2Rest [.int .i64 x, .int .i64 c] = some (.int .i64 (restT x c)) := by
 intro x c hc1
 refine kgr_eq (fun xs0 rr r2 h h2 => ?_) ⟨x, c, hc1, rfl, rfl⟩
 obtain ⟨x1, c1, _, e1, rfl⟩ := h; obtain ⟨x2, c2, _, e2, rfl⟩ := h2
 rw [e1] at e2
 simp only [List.cons.injEq, A.int.injEq, A.bool.injEq, A.agg.injEq, A.row.injEq, A.fn.injEq, A.rp.injEq, insv_inj, iv_inj, true_and, and_true] at e2
 simp [e2]
theorem implRest_ac (x : Int) (c : Int) (hc1 : -999999 ≤ c ∧ c ≤ 999999) : AC Tryz.prog 87 [.int .i64 x, .int .i64 c] (.int .i64 (restT x c)) := by
 have hm : 0 ≤ max c (-c) ∧ max c (-c) ≤ 999999 := by omega
 have hn : IntKind.i64.wrap (0 - c) = -c := by rw [Int.zero_sub]; exact wrap64 (by omega) (by omega)
 have hmx : (if -c > c then -c else c) = max c (-c) := by split <;> omega
 refine AC.of tab_ok Tryz.func87 rfl (Nat.le_of_ble_eq_true rfl) fun w0 S0 => ?_
 change G _ _ ⟨[(0, .int .i64 x), (1, .int .i64 c)], [], 20⟩
 apply G.seq
 refine G.rg tab_ok (kof_nil _) (hk := ?_)
 apply G.seq
 apply G.seq
 refine G.rg tab_ok (kof_nil _) (hk := ?_)
 refine G.iff (h1 := fun h1 => ?_) (h2 := fun h1 => ?_)
 ·try simp only [zqz] at h1
  apply G.seq
  refine G.rg tab_ok (kof_nil _) (hk := ?_)
  refine G.fin tab_ok (hr := ?_)
  simp only [oneOrTup, restT, h1, if_true]
 ·try simp only [zqz] at h1
  apply G.skip
  apply G.seq
  refine G.rg tab_ok (kof_nil _) (hk := ?_)
  apply G.seq
  have hz : ¬ max c (-c) = 0 := by omega
  have ht := tmod_lt x (max c (-c)) (by omega)
  have hw : IntKind.i64.wrap (x.tmod (max c (-c)) + max c (-c)) = x.tmod (max c (-c)) + max c (-c) := wrap64 (by omega) (by omega)
  refine G.rg tab_ok (kof_nil _) (hk := ?_)
  apply G.seq
  apply G.seq
  refine G.rg tab_ok (kof_nil _) (hk := ?_)
  refine G.fg [0, 1, 15] (hk := ?_)
  refine G.iff (h1 := fun h2 => ?_) (h2 := fun h2 => ?_)
  ·try simp only [zqz] at h2
   refine G.rg tab_ok (kof_nil _) (hk := ?_)
   apply G.seq
   refine G.rg tab_ok (kof_nil _) (hk := ?_)
   refine G.fin tab_ok (hr := ?_)
   have e : c ≠ 0 := by omega
   simp only [oneOrTup, restT, e, if_false, h2, if_true]
  ·try simp only [zqz] at h2
   apply G.skip
   apply G.seq
   refine G.rg tab_ok (kof_nil _) (hk := ?_)
   refine G.fin tab_ok (hr := ?_)
   have e : c ≠ 0 := by omega
   have h2 : ¬ x.tmod (max c (-c)) < 0 := by omega
   simp only [oneOrTup, restT, e, if_false, h2]
def r_implRest (xs0 : List A) (rr : A) : Prop := ∃ (x : Int) (c : Int), (-999999 ≤ c ∧ c ≤ 999999) ∧ xs0 = [.int .i64 x, .int .i64 c] ∧ rr = .int .i64 (restT x c)
noncomputable def q_implRest : List A → Option A := kgr r_implRest
theorem k_implRest : KOk Tryz.prog (87, q_implRest) := kgr_ok (enters_of Tryz.func87 rfl rfl) (by rintro xs0 rr ⟨x, c, hc1, rfl, rfl⟩; exact implRest_ac x c hc1)
theorem e_implRest : ∀ (x : Int) (c : Int), (-999999 ≤ c ∧ c ≤ 999999) → q_implRest [.int .i64 x, .int .i64 c] = some (.int .i64 (restT x c)) := by
 intro x c hc1
 refine kgr_eq (fun xs0 rr r2 h h2 => ?_) ⟨x, c, hc1, rfl, rfl⟩
 obtain ⟨x1, c1, _, e1, rfl⟩ := h; obtain ⟨x2, c2, _, e2, rfl⟩ := h2
 rw [e1] at e2
 simp only [List.cons.injEq, A.int.injEq, A.bool.injEq, A.agg.injEq, A.row.injEq, A.fn.injEq, A.rp.injEq, insv_inj, iv_inj, true_and, and_true] at e2
 simp [e2]
theorem ok_l2Value : Kn.ok Tryz.prog (kof [(92, q_specWrap), (93, q_l2Rest)]) := kof_cons k_specWrap (kof_cons k_l2Rest ((kof_nil _)))
theorem l2Value_ac (a : Int) (b : Int) (c : Int) (d : Int) (rs : List Int) (token : Int) (hc1 : RegOk (a, b, c, d) rs) : AC Tryz.prog 76 [.agg [.int .i64 a, .int .i64 b, .int .i64 c, .int .i64 d], .row false 1 (rs.map iv), .int .i64 token] (.int .i64 (valR (a, b, c, d) rs token)) := by
 have e_specWrap := e_specWrap
 have e_l2Rest := e_l2Rest
 have hb := hc1.b8
 have ha0 : 0 ≤ b := hc1.a0
 have ha1 : b < (rs.length : Int) := hc1.a1
 have ha2 : b.toNat < rs.length := by omega
 refine AC.of tab_ok Tryz.func76 rfl (Nat.le_of_ble_eq_true rfl) fun w0 S0 => ?_
 change G _ _ ⟨[(0, .agg [.int .i64 a, .int .i64 b, .int .i64 c, .int .i64 d]), (1, .row false 1 (rs.map iv)), (2, .int .i64 token)], [], 76⟩
 apply G.seq
 refine G.rg tab_ok ok_l2Value (hk := ?_)
 apply G.seq
 apply G.seq
 refine G.rg tab_ok ok_l2Value (hk := ?_)
 apply G.block
 apply G.seq
 refine G.rg tab_ok ok_l2Value (hk := ?_)
 refine G.iff (h1 := fun h1 => ?_) (h2 := fun h1 => ?_)
 ·try simp only [zqz] at h1
  apply G.seq
  refine G.rg tab_ok ok_l2Value (hk := ?_)
  refine G.fin tab_ok (hr := ?_)
  simp only [oneOrTup, valR, rg, if_true, if_false, Int.reduceEq, *]
 ·try simp only [zqz] at h1
  apply G.seq
  refine G.rg tab_ok ok_l2Value (hk := ?_)
  refine G.iff (h1 := fun h2 => ?_) (h2 := fun h2 => ?_)
  ·try simp only [zqz] at h2
   apply G.seq
   refine G.rg tab_ok ok_l2Value (hk := ?_)
   refine G.fin tab_ok (hr := ?_)
   simp only [oneOrTup, valR, rg, if_true, if_false, Int.reduceEq, *]
  ·try simp only [zqz] at h2
   apply G.seq
   refine G.rg tab_ok ok_l2Value (hk := ?_)
   refine G.fg [1, 3, 8, 16, 18, 19, 20, 21, 22, 23, 24, 25, 26, 27, 28, 29, 32, 33, 34, 35, 36, 37, 38, 39, 40, 41, 42, 43, 46, 47, 48, 49, 50, 51, 52, 53, 54, 55, 56, 57, 60, 61, 62, 63, 64, 65, 66, 67, 68, 69, 70] (hk := ?_)
   refine G.iff (h1 := fun h3 => ?_) (h2 := fun h3 => ?_)
   ·try simp only [zqz] at h3
    apply G.seq
    obtain ⟨q0, q1, q2, q3⟩ := hc1.b0 (by simp only; omega)
    simp only at q0 q1 q2 q3
    have q4 : c.toNat < rs.length := by omega
    have q5 : d.toNat < rs.length := by omega
    have tb : -999999 ≤ rs.getD c.toNat default ∧ rs.getD c.toNat default ≤ 999999 := hc1.rg q0 q1
    have tc : -999999 ≤ rs.getD d.toNat default ∧ rs.getD d.toNat default ≤ 999999 := hc1.rg q2 q3
    have hw : IntKind.i64.wrap (rs.getD c.toNat default + rs.getD d.toNat default) = rs.getD c.toNat default + rs.getD d.toNat default := wrap64 (by omega) (by omega)
    refine G.dr mixed tab_ok ok_l2Value [0, 1, 2, 3, 4, 5, 6, 7, 8, 9, 10, 11, 12] (hk := ?_)
    refine G.fin tab_ok (hr := ?_)
    simp only [oneOrTup, valR, rg, if_true, if_false, Int.reduceEq, *]
   ·try simp only [zqz] at h3
    apply G.seq
    refine G.rg tab_ok ok_l2Value (hk := ?_)
    refine G.iff (h1 := fun h4 => ?_) (h2 := fun h4 => ?_)
    ·try simp only [zqz] at h4
     apply G.seq
     obtain ⟨q0, q1, q2, q3⟩ := hc1.b0 (by simp only; omega)
     simp only at q0 q1 q2 q3
     have q4 : c.toNat < rs.length := by omega
     have q5 : d.toNat < rs.length := by omega
     have tb : -999999 ≤ rs.getD c.toNat default ∧ rs.getD c.toNat default ≤ 999999 := hc1.rg q0 q1
     have tc : -999999 ≤ rs.getD d.toNat default ∧ rs.getD d.toNat default ≤ 999999 := hc1.rg q2 q3
     have hw : IntKind.i64.wrap (rs.getD c.toNat default - rs.getD d.toNat default) = rs.getD c.toNat default - rs.getD d.toNat default := wrap64 (by omega) (by omega)
     refine G.dr mixed tab_ok ok_l2Value [0, 1, 2, 3, 4, 5, 6, 7, 8, 9, 10, 11, 12] (hk := ?_)
     refine G.fin tab_ok (hr := ?_)
     simp only [oneOrTup, valR, rg, if_true, if_false, Int.reduceEq, *]
    ·try simp only [zqz] at h4
     apply G.seq
     refine G.rg tab_ok ok_l2Value (hk := ?_)
     refine G.iff (h1 := fun h5 => ?_) (h2 := fun h5 => ?_)
     ·try simp only [zqz] at h5
      apply G.seq
      obtain ⟨q0, q1, q2, q3⟩ := hc1.b0 (by simp only; omega)
      simp only at q0 q1 q2 q3
      have q4 : c.toNat < rs.length := by omega
      have q5 : d.toNat < rs.length := by omega
      have tb : -999999 ≤ rs.getD c.toNat default ∧ rs.getD c.toNat default ≤ 999999 := hc1.rg q0 q1
      have tc : -999999 ≤ rs.getD d.toNat default ∧ rs.getD d.toNat default ≤ 999999 := hc1.rg q2 q3
      have hmul : -999998000001 ≤ rs.getD c.toNat default * rs.getD d.toNat default ∧ rs.getD c.toNat default * rs.getD d.toNat default ≤ 999998000001 := mul_tok tb tc
      have hw : IntKind.i64.wrap (rs.getD c.toNat default * rs.getD d.toNat default) = rs.getD c.toNat default * rs.getD d.toNat default := wrap64 (by omega) (by omega)
      refine G.dr mixed tab_ok ok_l2Value [0, 1, 2, 3, 4, 5, 6, 7, 8, 9, 10, 11, 12] (hk := ?_)
      refine G.fin tab_ok (hr := ?_)
      simp only [oneOrTup, valR, rg, if_true, if_false, Int.reduceEq, *]
     ·try simp only [zqz] at h5
      apply G.seq
      refine G.rg tab_ok ok_l2Value (hk := ?_)
      refine G.iff (h1 := fun h6 => ?_) (h2 := fun h6 => ?_)
      ·try simp only [zqz] at h6
       apply G.seq
       obtain ⟨q0, q1, q2, q3⟩ := hc1.b0 (by simp only; omega)
       simp only at q0 q1 q2 q3
       have q4 : c.toNat < rs.length := by omega
       have q5 : d.toNat < rs.length := by omega
       have tb : -999999 ≤ rs.getD c.toNat default ∧ rs.getD c.toNat default ≤ 999999 := hc1.rg q0 q1
       have tc : -999999 ≤ rs.getD d.toNat default ∧ rs.getD d.toNat default ≤ 999999 := hc1.rg q2 q3
       refine G.dr mixed tab_ok ok_l2Value [0, 1, 2, 3, 4, 5, 6, 7, 8, 9, 10, 11] (hk := ?_)
       refine G.fin tab_ok (hr := ?_)
       simp only [oneOrTup, valR, rg, if_true, if_false, Int.reduceEq, *]
      ·try simp only [zqz] at h6
       apply G.skip
       apply G.blk
       apply G.seq
       refine G.rg tab_ok ok_l2Value (hk := ?_)
       refine G.fin tab_ok (hr := ?_)
       simp only [oneOrTup, valR, rg, if_true, if_false, Int.reduceEq, *]
def r_l2Value (xs0 : List A) (rr : A) : Prop := ∃ (a : Int) (b : Int) (c : Int) (d : Int) (rs : List Int) (token : Int), (RegOk (a, b, c, d) rs) ∧ xs0 = [.agg [.int .i64 a, .int .i64 b, .int .i64 c, .int .i64 d], .row false 1 (rs.map iv), .int .i64 token] ∧ rr = .int .i64 (valR (a, b, c, d) rs token)
noncomputable def q_l2Value : List A → Option A := kgr r_l2Value
theorem k_l2Value : KOk Tryz.prog (76, q_l2Value) := kgr_ok (enters_of Tryz.func76 rfl rfl) (by rintro xs0 rr ⟨a, b, c, d, rs, token, hc1, rfl, rfl⟩; exact l2Value_ac a b c d rs token hc1)
theorem e_l2Value : ∀ (a : Int) (b : Int) (c : Int) (d : Int) (rs : List Int) (token : Int), (RegOk (a, b, c, d) rs) → q_l2Value [.agg [.int .i64 a, .int .i64 b, .int .i64 c, .int .i64 d], .row false 1 (rs.map iv), .int .i64 token] = some (.int .i64 (valR (a, b, c, d) rs token)) := by
 intro a b c d rs token hc1
 refine kgr_eq (fun xs0 rr r2 h h2 => ?_) ⟨a, b, c, d, rs, token, hc1, rfl, rfl⟩
 obtain ⟨a1, b1, c1, d1, rs1, token1, _, e1, rfl⟩ := h; obtain ⟨a2, b2, c2, d2, rs2, token2, _, e2, rfl⟩ := h2
 rw [e1] at e2
 simp only [List.cons.injEq, A.int.injEq, A.bool.injEq, A.agg.injEq, A.row.injEq, A.fn.injEq, A.rp.injEq, insv_inj, iv_inj, true_and, and_true] at e2
 simp [e2]
theorem ok_l2Step : Kn.ok Tryz.prog (kof [(48, q_l1Copy), (76, q_l2Value)]) := kof_cons k_l1Copy (kof_cons k_l2Value ((kof_nil _)))
theorem l2Step_ac (i : Int) (o : Int) (l : List I4) (pc : Int) (rs : List Int) (token : Int) (hc1 : 0 ≤ pc) (hc2 : pc < (l.length : Int)) (hc3 : l.length ≤ 24) (hc4 : RegOk (l.getD pc.toNat default) rs) : AC Tryz.prog 49 [.agg [.int .i64 i, .int .i64 o, .row false 4 (l.map insv)], .agg [.int .i64 pc, .row false 1 (rs.map iv)], .int .i64 token] (.tup [.agg [.int .i64 (stepPc (l.getD pc.toNat default) pc rs), .row true 1 ((stepRs (l.getD pc.toNat default) rs token).map iv)], .int .i64 (stepW (l.getD pc.toNat default) rs)]) := by
 have e_l1Copy := e_l1Copy
 have e_l2Value := e_l2Value
 obtain ⟨⟨a, b, c, d⟩, hX⟩ : ∃ x, l.getD pc.toNat default = x := ⟨_, rfl⟩
 rw [hX] at hc4
 simp only [hX]
 have hb := hc4.b8
 have ha0 : 0 ≤ b := hc4.a0
 have ha1 : b < (rs.length : Int) := hc4.a1
 have ha2 : b.toNat < rs.length := by omega
 have hpl : pc.toNat < l.length := by omega
 have hget : (List.map iv rs)[b.toNat]? = some [.int .i64 (rs.getD b.toNat default)] := by simp [ha2, iv]
 have hset : ∀ v : Int, (List.map iv rs).set b.toNat [.int .i64 v] = List.map iv (rs.set b.toNat v) := fun v => by rw [List.map_set]; rfl
 have hlset : ∀ v : Int, rs.length ≤ (rs.set b.toNat v).length := fun v => by simp
 have htk : ∀ v : Int, List.take rs.length (List.map iv (rs.set b.toNat v)) = List.map iv (rs.set b.toNat v) := fun v => List.take_of_length_le (by simp)
 have hsame : rs.set b.toNat (rs.getD b.toNat default) = rs := by
  rw [List.getD_eq_getElem?_getD, List.getElem?_eq_getElem ha2]
  exact List.set_getElem_self ha2
 have hsame0 : ∀ v : Int, rs.getD b.toNat default = v → rs.set b.toNat v = rs := fun v h => by rw [← h]; exact hsame
 have hwp : IntKind.i64.wrap (pc + 1) = pc + 1 := wrap64 (by omega) (by omega)
 have hcb : rs.length ≤ 1048576 := by omega
 refine AC.of tab_ok Tryz.func49 rfl (Nat.le_of_ble_eq_true rfl) fun w0 S0 => ?_
 change G _ _ ⟨[(0, .agg [.int .i64 i, .int .i64 o, .row false 4 (l.map insv)]), (1, .agg [.int .i64 pc, .row false 1 (rs.map iv)]), (2, .int .i64 token)], [], 79⟩
 apply G.seq
 refine G.rg tab_ok ok_l2Step (hk := ?_)
 apply G.seq
 refine G.rg tab_ok ok_l2Step (hk := ?_)
 apply G.seq
 apply G.joinR
 ·intro hk
  refine G.drawL (c := ⟨Tryz.prog, tab, _, _, _, _, _⟩) mixed tab_ok ok_l2Step 9 ?_ rfl
  refine AnyL.gg (n := 4) 5 [0, 1, 2, 3, 4] (h := ?_)
  refine AnyL.fk2 (n := 3) 5 7 (k1 := ?_) (k2 := ?_)
  ·skip
   refine AnyL.gg (n := 0) 3 [6, 7, 8] (h := ?_)
   exact AnyL.ln [2, 4, 6, 8, 9, 67, 68, 69, 70, 71, 72, 73, 74, 75, 76] (h := hk)
  ·skip
   refine AnyL.gg (n := 0) 3 [5, 6, 8] (h := ?_)
   exact AnyL.ln [2, 4, 6, 8, 9, 67, 68, 69, 70, 71, 72, 73, 74, 75, 76] (h := hk)
 apply G.seq
 refine G.rg tab_ok ok_l2Step (hk := ?_)
 apply G.seq
 apply G.seq
 refine G.rg tab_ok ok_l2Step (hk := ?_)
 refine G.fg [2, 4, 6, 8, 9, 10, 26, 67, 68, 69, 70, 71, 72, 73, 74, 75, 76] (hk := ?_)
 refine G.iff (h1 := fun h1 => ?_) (h2 := fun h1 => ?_)
 ·try simp only [zqz] at h1
  have h1w := h1
  clear h1
  change id _ at h1w
  refine G.rg tab_ok ok_l2Step (hk := ?_)
  apply G.seq
  apply G.seq
  refine G.rg tab_ok ok_l2Step (hk := ?_)
  refine G.fg [2, 4, 6, 8, 9, 10, 63, 67, 68, 69, 70, 71, 72, 73, 74, 75, 76] (hk := ?_)
  refine G.iff (h1 := fun h2 => ?_) (h2 := fun h2 => ?_)
  ·try simp only [zqz] at h2
   refine G.rg tab_ok ok_l2Step (hk := ?_)
   apply G.seq
   refine G.dr mixed tab_ok ok_l2Step [0, 1, 2, 3, 4, 5, 6, 7, 8, 9, 10] (hk := ?_)
   apply G.seq
   refine G.rg tab_ok ok_l2Step (hk := ?_)
   refine G.fin tab_ok (hr := ?_)
   have h1 : a = 2 := h1w
   have hs : stepPc (a, b, c, d) pc rs = c := if_pos (by simp only [rg]; omega)
   have hv : stepW (a, b, c, d) rs = rs.getD b.toNat default := by simp only [stepW, rg, h1, if_true, if_false, Int.reduceEq]
   simp only [oneOrTup, hs, hv, stepRs]
  ·try simp only [zqz] at h2
   apply G.skip
   apply G.seq
   refine G.dr mixed tab_ok ok_l2Step [0, 1, 2, 3, 4, 5, 6, 7, 8, 9, 10] (hk := ?_)
   apply G.seq
   refine G.rg tab_ok ok_l2Step (hk := ?_)
   refine G.fin tab_ok (hr := ?_)
   have h1 : a = 2 := h1w
   have hs : stepPc (a, b, c, d) pc rs = pc + 1 := if_neg (by simp only [rg]; omega)
   have hv : stepW (a, b, c, d) rs = rs.getD b.toNat default := by simp only [stepW, rg, h1, if_true, if_false, Int.reduceEq]
   simp only [oneOrTup, hs, hv, stepRs]
 ·try simp only [zqz] at h1
  have h1w := h1
  clear h1
  change id _ at h1w
  apply G.skip
  apply G.seq
  apply G.seq
  refine G.rg tab_ok ok_l2Step (hk := ?_)
  refine G.fg [2, 4, 6, 8, 9, 10, 63, 67, 68, 69, 70, 71, 72, 73, 74, 75, 76] (hk := ?_)
  refine G.iff (h1 := fun h3 => ?_) (h2 := fun h3 => ?_)
  ·try simp only [zqz] at h3
   refine G.rg tab_ok ok_l2Step (hk := ?_)
   apply G.seq
   refine G.dr mixed tab_ok ok_l2Step [0, 1, 2, 3, 4, 5, 6, 7, 8, 9, 10] (hk := ?_)
   apply G.seq
   refine G.rg tab_ok ok_l2Step (hk := ?_)
   refine G.fin tab_ok (hr := ?_)
   have h1 : ¬ a = 2 := h1w
   have hs : stepPc (a, b, c, d) pc rs = c := if_pos (by simp only [rg]; omega)
   have hv : stepW (a, b, c, d) rs = 0 := by simp only [stepW, rg, h1, if_true, if_false, Int.reduceEq]
   simp only [oneOrTup, hs, hv, stepRs]
  ·try simp only [zqz] at h3
   apply G.skip
   apply G.seq
   refine G.dr mixed tab_ok ok_l2Step [0, 1, 2, 3, 4, 5, 6, 7, 8, 9, 10] (hk := ?_)
   apply G.seq
   refine G.rg tab_ok ok_l2Step (hk := ?_)
   refine G.fin tab_ok (hr := ?_)
   have h1 : ¬ a = 2 := h1w
   have hs : stepPc (a, b, c, d) pc rs = pc + 1 := if_neg (by simp only [rg]; omega)
   have hv : stepW (a, b, c, d) rs = 0 := by simp only [stepW, rg, h1, if_true, if_false, Int.reduceEq]
   simp only [oneOrTup, hs, hv, stepRs]
def r_l2Step (xs0 : List A) (rr : A) : Prop := ∃ (i : Int) (o : Int) (l : List I4) (pc : Int) (rs : List Int) (token : Int), (0 ≤ pc) ∧ (pc < (l.length : Int)) ∧ (l.length ≤ 24) ∧ (RegOk (l.getD pc.toNat default) rs) ∧ xs0 = [.agg [.int .i64 i, .int .i64 o, .row false 4 (l.map insv)], .agg [.int .i64 pc, .row false 1 (rs.map iv)], .int .i64 token] ∧ rr = .tup [.agg [.int .i64 (stepPc (l.getD pc.toNat default) pc rs), .row true 1 ((stepRs (l.getD pc.toNat default) rs token).map iv)], .int .i64 (stepW (l.getD pc.toNat default) rs)]
noncomputable def q_l2Step : List A → Option A := kgr r_l2Step
theorem k_l2Step : KOk Tryz.prog (49, q_l2Step) := kgr_ok (enters_of Tryz.func49 rfl rfl) (by rintro xs0 rr ⟨i, o, l, pc, rs, token, hc1, hc2, hc3, hc4, rfl, rfl⟩; exact l2Step_ac i o l pc rs token hc1 hc2 hc3 hc4)
theorem e_l2Step : ∀ (i : Int) (o : Int) (l : List I4) (pc : Int) (rs : List Int) (token : Int), (0 ≤ pc) → (pc < (l.length : Int)) → (l.length ≤ 24) → (RegOk (l.getD pc.toNat default) rs) → q_l2Step [.agg [.int .i64 i, .int .i64 o, .row false 4 (l.map insv)], .agg [.int .i64 pc, .row false 1 (rs.map iv)], .int .i64 token] = some (.tup [.agg [.int .i64 (stepPc (l.getD pc.toNat default) pc rs), .row true 1 ((stepRs (l.getD pc.toNat default) rs token).map iv)], .int .i64 (stepW (l.getD pc.toNat default) rs)]) := by
 intro i o l pc rs token hc1 hc2 hc3 hc4
 refine kgr_eq (fun xs0 rr r2 h h2 => ?_) ⟨i, o, l, pc, rs, token, hc1, hc2, hc3, hc4, rfl, rfl⟩
 obtain ⟨i1, o1, l1, pc1, rs1, token1, _, _, _, _, e1, rfl⟩ := h; obtain ⟨i2, o2, l2, pc2, rs2, token2, _, _, _, _, e2, rfl⟩ := h2
 rw [e1] at e2
 simp only [List.cons.injEq, A.int.injEq, A.bool.injEq, A.agg.injEq, A.row.injEq, A.fn.injEq, A.rp.injEq, insv_inj, iv_inj, true_and, and_true] at e2
 simp [e2]
theorem cloneInt_ac (rs : List Int) (hc1 : rs.length ≤ 1048576) : AC Tryz.prog 84 [.row false 1 (rs.map iv)] (.row true 1 (rs.map iv)) := by
 have hb1 : ((0 + rs.length : Nat) : Int) ≤ 4611686018427387904 := by omega
 have hb2 : (0 + rs.length) * 8 ≤ 70368744177664 := by omega
 have hb3 : (rs.length : Int) ≤ 4611686018427387904 := by omega
 have hb4 : rs.length * 8 ≤ 70368744177664 := by omega
 refine AC.of tab_ok Tryz.func84 rfl (Nat.le_of_ble_eq_true rfl) fun w0 S0 => ?_
 change G _ _ ⟨[(0, .row false 1 (rs.map iv))], [], 8⟩
 apply G.seq
 refine G.rg tab_ok (kof_nil _) (hk := ?_)
 apply G.seq
 apply G.seq
 refine G.rgN 1 tab_ok (kof_nil _) (hk := ?_)
 refine G.opNil tab_ok rfl rfl rfl rfl rfl rfl rfl (h1 := fun hn => ?_) (h2 := ?_)
 ·refine G.rgC tab_ok (kof_nil _) (hk := ?_)
  refine G.iffT (h1 := ?_)
  apply G.seq
  refine G.rg tab_ok (kof_nil _) (hk := ?_)
  have e : rs = [] := by simpa using hn
  subst e
  refine G.nilRow 2 1 rfl ?_
  refine G.fin tab_ok (hr := ?_)
  rfl
 ·refine G.rgC tab_ok (kof_nil _) (hk := ?_)
  refine G.iffF (h2 := ?_)
  apply G.skip
  apply G.seq
  refine G.rg tab_ok (kof_nil _) (hk := ?_)
  refine G.fin tab_ok (hr := ?_)
  rfl
def r_cloneInt (xs0 : List A) (rr : A) : Prop := ∃ (rs : List Int), (rs.length ≤ 1048576) ∧ xs0 = [.row false 1 (rs.map iv)] ∧ rr = .row true 1 (rs.map iv)
noncomputable def q_cloneInt : List A → Option A := kgr r_cloneInt
theorem k_cloneInt : KOk Tryz.prog (84, q_cloneInt) := kgr_ok (enters_of Tryz.func84 rfl rfl) (by rintro xs0 rr ⟨rs, hc1, rfl, rfl⟩; exact cloneInt_ac rs hc1)
theorem e_cloneInt : ∀ (rs : List Int), (rs.length ≤ 1048576) → q_cloneInt [.row false 1 (rs.map iv)] = some (.row true 1 (rs.map iv)) := by
 intro rs hc1
 refine kgr_eq (fun xs0 rr r2 h h2 => ?_) ⟨rs, hc1, rfl, rfl⟩
 obtain ⟨rs1, _, e1, rfl⟩ := h; obtain ⟨rs2, _, e2, rfl⟩ := h2
 rw [e1] at e2
 simp only [List.cons.injEq, A.int.injEq, A.bool.injEq, A.agg.injEq, A.row.injEq, A.fn.injEq, A.rp.injEq, insv_inj, iv_inj, true_and, and_true] at e2
 simp [e2]
end Go.Proofs.YtdcjlemkegifjaaGreat.Ab
