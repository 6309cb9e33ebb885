/- Walks of functions of the program, and the plain definitions. -/
import Derived.Test.YtimgfinlbhodhaaFwGd
namespace Go.Proofs.Ytimgfinlbhodhaa.Ab
open Go
set_option linter.unusedVariables false
set_option linter.unusedSimpArgs false
set_option maxHeartbeats 4000000
theorem specWrap_ac (n : Int)  : AC Try.prog 208 [.int .i64 n] (.int .i64 (wrapT n)) := by
 have ht := tmod_lt n 1999999 (by omega)
 have hw1 : IntKind.i64.wrap (n.tmod 1999999 - 1999999) = n.tmod 1999999 - 1999999 := wrap64 (by omega) (by omega)
 have hw2 : IntKind.i64.wrap (n.tmod 1999999 + 1999999) = n.tmod 1999999 + 1999999 := wrap64 (by omega) (by omega)
 refine AC.of tab_ok Try.func208 rfl (Nat.le_of_ble_eq_true rfl) fun w0 S0 => ?_
 change G _ _ ⟨[(0, .int .i64 n)], [], 15⟩
 apply G.seq
 refine G.rg tab_ok (kof_nil _) (hk := ?_)
 apply G.seq
 refine G.rg tab_ok (kof_nil _) (hk := ?_)
 apply G.seq
 apply G.seq
 refine G.rg tab_ok (kof_nil _) (hk := ?_)
 refine G.iff (h1 := fun h1 => ?_) (h2 := fun h1 => ?_)
 ·try simp only [zqz] at h1
  refine G.rg tab_ok (kof_nil _) (hk := ?_)
  apply G.seq
  apply G.seq
  refine G.rg tab_ok (kof_nil _) (hk := ?_)
  refine G.fg [3, 11] (hk := ?_)
  refine G.iff (h1 := fun h2 => ?_) (h2 := fun h2 => ?_)
  ·try simp only [zqz] at h2
   refine G.rg tab_ok (kof_nil _) (hk := ?_)
   apply G.seq
   refine G.rg tab_ok (kof_nil _) (hk := ?_)
   refine G.fin tab_ok (hr := ?_)
   simp only [oneOrTup, wrapT]
   congr 1
   repeat' split
   all_goals omega
  ·try simp only [zqz] at h2
   apply G.skip
   apply G.seq
   refine G.rg tab_ok (kof_nil _) (hk := ?_)
   refine G.fin tab_ok (hr := ?_)
   simp only [oneOrTup, wrapT]
   congr 1
   repeat' split
   all_goals omega
 ·try simp only [zqz] at h1
  apply G.skip
  apply G.seq
  apply G.seq
  refine G.rg tab_ok (kof_nil _) (hk := ?_)
  refine G.iff (h1 := fun h3 => ?_) (h2 := fun h3 => ?_)
  ·try simp only [zqz] at h3
   refine G.rg tab_ok (kof_nil _) (hk := ?_)
   apply G.seq
   refine G.rg tab_ok (kof_nil _) (hk := ?_)
   refine G.fin tab_ok (hr := ?_)
   simp only [oneOrTup, wrapT]
   congr 1
   repeat' split
   all_goals omega
  ·try simp only [zqz] at h3
   apply G.skip
   apply G.seq
   refine G.rg tab_ok (kof_nil _) (hk := ?_)
   refine G.fin tab_ok (hr := ?_)
   simp only [oneOrTup, wrapT]
   congr 1
   repeat' split
   all_goals omega
def r_specWrap (xs0 : List A) (rr : A) : Prop := ∃ (n : Int), xs0 = [.int .i64 n] ∧ rr = .int .i64 (wrapT n)
noncomputable def q_specWrap : List A → Option A := kgr r_specWrap
theorem k_specWrap : KOk Try.prog (208, q_specWrap) := kgr_ok (enters_of Try.func208 rfl rfl) (by rintro xs0 rr ⟨n, rfl, rfl⟩; exact specWrap_ac n)
theorem e_specWrap : ∀ (n : Int), q_specWrap [.int .i64 n] = some (.int .i64 (wrapT n)) := by
 intro n
 refine kgr_eq (fun xs0 rr r2 h h2 => ?_) ⟨n, rfl, rfl⟩
 obtain ⟨n1, e1, rfl⟩ := h; obtain ⟨n2, e2, rfl⟩ := h2
 rw [e1] at e2
 simp only [List.cons.injEq, A.int.injEq, A.bool.injEq, A.agg.injEq, A.row.injEq, A.fn.injEq, A.rp.injEq, insv_inj, iv_inj, true_and, and_true] at e2
 simp [e2]
theorem implWrap_ac (n : Int)  : AC Try.prog 131 [.int .i64 n] (.int .i64 (wrapT n)) := by
 have ht := tmod_lt n 1999999 (by omega)
 have hw1 : IntKind.i64.wrap (n.tmod 1999999 - 1999999) = n.tmod 1999999 - 1999999 := wrap64 (by omega) (by omega)
 have hw2 : IntKind.i64.wrap (n.tmod 1999999 + 1999999) = n.tmod 1999999 + 1999999 := wrap64 (by omega) (by omega)
 refine AC.of tab_ok Try.func131 rfl (Nat.le_of_ble_eq_true rfl) fun w0 S0 => ?_
 change G _ _ ⟨[(0, .int .i64 n)], [], 16⟩
 apply G.seq
 refine G.rg tab_ok (kof_nil _) (hk := ?_)
 apply G.seq
 refine G.rg tab_ok (kof_nil _) (hk := ?_)
 apply G.seq
 apply G.block
 apply G.seq
 refine G.rg tab_ok (kof_nil _) (hk := ?_)
 refine G.iff (h1 := fun h1 => ?_) (h2 := fun h1 => ?_)
 ·try simp only [zqz] at h1
  apply G.seq
  refine G.rg tab_ok (kof_nil _) (hk := ?_)
  refine G.fin tab_ok (hr := ?_)
  simp only [oneOrTup, wrapT]
  congr 1
  repeat' split
  all_goals omega
 ·try simp only [zqz] at h1
  apply G.seq
  refine G.rg tab_ok (kof_nil _) (hk := ?_)
  refine G.fg [0, 10] (hk := ?_)
  refine G.iff (h1 := fun h2 => ?_) (h2 := fun h2 => ?_)
  ·try simp only [zqz] at h2
   apply G.seq
   refine G.rg tab_ok (kof_nil _) (hk := ?_)
   refine G.fin tab_ok (hr := ?_)
   simp only [oneOrTup, wrapT]
   congr 1
   repeat' split
   all_goals omega
  ·try simp only [zqz] at h2
   apply G.skip
   apply G.blk
   apply G.seq
   refine G.rg tab_ok (kof_nil _) (hk := ?_)
   refine G.fin tab_ok (hr := ?_)
   simp only [oneOrTup, wrapT]
   congr 1
   repeat' split
   all_goals omega
def r_implWrap (xs0 : List A) (rr : A) : Prop := ∃ (n : Int), xs0 = [.int .i64 n] ∧ rr = .int .i64 (wrapT n)
noncomputable def q_implWrap : List A → Option A := kgr r_implWrap
theorem k_implWrap : KOk Try.prog (131, q_implWrap) := kgr_ok (enters_of Try.func131 rfl rfl) (by rintro xs0 rr ⟨n, rfl, rfl⟩; exact implWrap_ac n)
theorem e_implWrap : ∀ (n : Int), q_implWrap [.int .i64 n] = some (.int .i64 (wrapT n)) := by
 intro n
 refine kgr_eq (fun xs0 rr r2 h h2 => ?_) ⟨n, rfl, rfl⟩
 obtain ⟨n1, e1, rfl⟩ := h; obtain ⟨n2, e2, rfl⟩ := h2
 rw [e1] at e2
 simp only [List.cons.injEq, A.int.injEq, A.bool.injEq, A.agg.injEq, A.row.injEq, A.fn.injEq, A.rp.injEq, insv_inj, iv_inj, true_and, and_true] at e2
 simp [e2]
theorem l2Rest_ac (x : Int) (c : Int) (hc1 : -999999 ≤ c ∧ c ≤ 999999) : AC Try.prog 209 [.int .i64 x, .int .i64 c] (.int .i64 (restT x c)) := by
 have hm : 0 ≤ max c (-c) ∧ max c (-c) ≤ 999999 := by omega
 have hn : IntKind.i64.wrap (0 - c) = -c := by rw [Int.zero_sub]; exact wrap64 (by omega) (by omega)
 have hmx : (if -c > c then -c else c) = max c (-c) := by split <;> omega
 refine AC.of tab_ok Try.func209 rfl (Nat.le_of_ble_eq_true rfl) fun w0 S0 => ?_
 change G _ _ ⟨[(0, .int .i64 x), (1, .int .i64 c)], [], 21⟩
 apply G.seq
 refine G.rg tab_ok (kof_nil _) (hk := ?_)
 apply G.seq
 refine G.rg tab_ok (kof_nil _) (hk := ?_)
 apply G.seq
 apply G.seq
 refine G.rg tab_ok (kof_nil _) (hk := ?_)
 refine G.iff (h1 := fun h1 => ?_) (h2 := fun h1 => ?_)
 ·try simp only [zqz] at h1
  apply G.seq
  refine G.rg tab_ok (kof_nil _) (hk := ?_)
  refine G.fin tab_ok (hr := ?_)
  have e : c = 0 := by omega
  simp only [oneOrTup, restT, e, if_true]
 ·try simp only [zqz] at h1
  apply G.skip
  apply G.seq
  have hz : ¬ max c (-c) = 0 := h1
  have ht := tmod_lt x (max c (-c)) (by omega)
  have hw : IntKind.i64.wrap (x.tmod (max c (-c)) + max c (-c)) = x.tmod (max c (-c)) + max c (-c) := wrap64 (by omega) (by omega)
  refine G.rg tab_ok (kof_nil _) (hk := ?_)
  apply G.seq
  apply G.seq
  refine G.rg tab_ok (kof_nil _) (hk := ?_)
  refine G.fg [1, 5, 16] (hk := ?_)
  refine G.iff (h1 := fun h2 => ?_) (h2 := fun h2 => ?_)
  ·try simp only [zqz] at h2
   refine G.rg tab_ok (kof_nil _) (hk := ?_)
   apply G.seq
   refine G.rg tab_ok (kof_nil _) (hk := ?_)
   refine G.fin tab_ok (hr := ?_)
   have e : c ≠ 0 := by omega
   simp only [oneOrTup, restT, e, if_false, h2, if_true]
  ·try simp only [zqz] at h2
   apply G.skip
   apply G.seq
   refine G.rg tab_ok (kof_nil _) (hk := ?_)
   refine G.fin tab_ok (hr := ?_)
   have e : c ≠ 0 := by omega
   have h2 : ¬ x.tmod (max c (-c)) < 0 := by omega
   simp only [oneOrTup, restT, e, if_false, h2]
def r_l2Rest (xs0 : List A) (rr : A) : Prop := ∃ (x : Int) (c : Int), (-999999 ≤ c ∧ c ≤ 999999) ∧ xs0 = [.int .i64 x, .int .i64 c] ∧ rr = .int .i64 (restT x c)
noncomputable def q_l2Rest : List A → Option A := kgr r_l2Rest
theorem k_l2Rest : KOk Try.prog (209, q_l2Rest) := kgr_ok (enters_of Try.func209 rfl rfl) (by rintro xs0 rr ⟨x, c, hc1, rfl, rfl⟩; exact l2Rest_ac x c hc1)
theorem e_l2Rest : ∀ (x : Int) (c : Int), (-999999 ≤ c ∧ c ≤ 999999) → q_l2Rest [.int .i64 x, .int .i64 c] = some (.int .i64 (restT x c)) := by
 intro x c hc1
 refine kgr_eq (fun xs0 rr r2 h h2 => ?_) ⟨x, c, hc1, rfl, rfl⟩
 obtain ⟨x1, c1, _, e1, rfl⟩ := h; obtain ⟨x2, c2, _, e2, rfl⟩ := h2
 rw [e1] at e2
 simp only [List.cons.injEq, A.int.injEq, A.bool.injEq, A.agg.injEq, A.row.injEq, A.fn.injEq, A.rp.injEq, insv_inj, iv_inj, true_and, and_true] at e2
 simp [e2]
theorem implRest_ac (x : Int) (c : Int) (hc1 : -999999 ≤ c ∧ c ≤ 999999) : AC Try.prog 164 [.int .i64 x, .int .i64 c] (.int .i64 (restT x c)) := by
 have hm : 0 ≤ max c (-c) ∧ max c (-c) ≤ 999999 := by omega
 have hn : IntKind.i64.wrap (0 - c) = -c := by rw [Int.zero_sub]; exact wrap64 (by omega) (by omega)
 have hmx : (if -c > c then -c else c) = max c (-c) := by split <;> omega
 refine AC.of tab_ok Try.func164 rfl (Nat.le_of_ble_eq_true rfl) fun w0 S0 => ?_
 change G _ _ ⟨[(0, .int .i64 x), (1, .int .i64 c)], [], 20⟩
 apply G.seq
 refine G.rg tab_ok (kof_nil _) (hk := ?_)
 apply G.seq
 apply G.seq
 refine G.rg tab_ok (kof_nil _) (hk := ?_)
 refine G.iff (h1 := fun h1 => ?_) (h2 := fun h1 => ?_)
 ·try simp only [zqz] at h1
  apply G.seq
  refine G.rg tab_ok (kof_nil _) (hk := ?_)
  refine G.fin tab_ok (hr := ?_)
  simp only [oneOrTup, restT, h1, if_true]
 ·try simp only [zqz] at h1
  apply G.skip
  apply G.seq
  refine G.rg tab_ok (kof_nil _) (hk := ?_)
  apply G.seq
  have hz : ¬ max c (-c) = 0 := by omega
  have ht := tmod_lt x (max c (-c)) (by omega)
  have hw : IntKind.i64.wrap (x.tmod (max c (-c)) + max c (-c)) = x.tmod (max c (-c)) + max c (-c) := wrap64 (by omega) (by omega)
  refine G.rg tab_ok (kof_nil _) (hk := ?_)
  apply G.seq
  apply G.seq
  refine G.rg tab_ok (kof_nil _) (hk := ?_)
  refine G.fg [0, 1, 15] (hk := ?_)
  refine G.iff (h1 := fun h2 => ?_) (h2 := fun h2 => ?_)
  ·try simp only [zqz] at h2
   refine G.rg tab_ok (kof_nil _) (hk := ?_)
   apply G.seq
   refine G.rg tab_ok (kof_nil _) (hk := ?_)
   refine G.fin tab_ok (hr := ?_)
   have e : c ≠ 0 := by omega
   simp only [oneOrTup, restT, e, if_false, h2, if_true]
  ·try simp only [zqz] at h2
   apply G.skip
   apply G.seq
   refine G.rg tab_ok (kof_nil _) (hk := ?_)
   refine G.fin tab_ok (hr := ?_)
   have e : c ≠ 0 := by omega
   have h2 : ¬ x.tmod (max c (-c)) < 0 := by omega
   simp only [oneOrTup, restT, e, if_false, h2]
def r_implRest (xs0 : List A) (rr : A) : Prop := ∃ (x : Int) (c : Int), (-999999 ≤ c ∧ c ≤ 999999) ∧ xs0 = [.int .i64 x, .int .i64 c] ∧ rr = .int .i64 (restT x c)
noncomputable def q_implRest : List A → Option A := kgr r_implRest
theorem k_implRest : KOk Try.prog (164, q_implRest) := kgr_ok (enters_of Try.func164 rfl rfl) (by rintro xs0 rr ⟨x, c, hc1, rfl, rfl⟩; exact implRest_ac x c hc1)
theorem e_implRest : ∀ (x : Int) (c : Int), (-999999 ≤ c ∧ c ≤ 999999) → q_implRest [.int .i64 x, .int .i64 c] = some (.int .i64 (restT x c)) := by
 intro x c hc1
 refine kgr_eq (fun xs0 rr r2 h h2 => ?_) ⟨x, c, hc1, rfl, rfl⟩
 obtain ⟨x1, c1, _, e1, rfl⟩ := h; obtain ⟨x2, c2, _, e2, rfl⟩ := h2
 rw [e1] at e2
 simp only [List.cons.injEq, A.int.injEq, A.bool.injEq, A.agg.injEq, A.row.injEq, A.fn.injEq, A.rp.injEq, insv_inj, iv_inj, true_and, and_true] at e2
 simp [e2]
theorem ok_l2Value : Kn.ok Try.prog (kof [(208, q_specWrap), (209, q_l2Rest)]) := kof_cons k_specWrap (kof_cons k_l2Rest ((kof_nil _)))
theorem l2Value_ac (a : Int) (b : Int) (c : Int) (d : Int) (rs : List Int) (token : Int) (hc1 : RegOk (a, b, c, d) rs) : AC Try.prog 184 [.agg [.int .i64 a, .int .i64 b, .int .i64 c, .int .i64 d], .row false 1 (rs.map iv), .int .i64 token] (.int .i64 (valR (a, b, c, d) rs token)) := by
 have e_specWrap := e_specWrap
 have e_l2Rest := e_l2Rest
 have hb := hc1.b8
 have ha0 : 0 ≤ b := hc1.a0
 have ha1 : b < (rs.length : Int) := hc1.a1
 have ha2 : b.toNat < rs.length := by omega
 refine AC.of tab_ok Try.func184 rfl (Nat.le_of_ble_eq_true rfl) fun w0 S0 => ?_
 change G _ _ ⟨[(0, .agg [.int .i64 a, .int .i64 b, .int .i64 c, .int .i64 d]), (1, .row false 1 (rs.map iv)), (2, .int .i64 token)], [], 76⟩
 apply G.seq
 refine G.rg tab_ok ok_l2Value (hk := ?_)
 apply G.seq
 apply G.seq
 refine G.rg tab_ok ok_l2Value (hk := ?_)
 apply G.block
 apply G.seq
 refine G.rg tab_ok ok_l2Value (hk := ?_)
 refine G.iff (h1 := fun h1 => ?_) (h2 := fun h1 => ?_)
 ·try simp only [zqz] at h1
  apply G.seq
  refine G.rg tab_ok ok_l2Value (hk := ?_)
  refine G.fin tab_ok (hr := ?_)
  simp only [oneOrTup, valR, rg, if_true, if_false, Int.reduceEq, *]
 ·try simp only [zqz] at h1
  apply G.seq
  refine G.rg tab_ok ok_l2Value (hk := ?_)
  refine G.iff (h1 := fun h2 => ?_) (h2 := fun h2 => ?_)
  ·try simp only [zqz] at h2
   apply G.seq
   refine G.rg tab_ok ok_l2Value (hk := ?_)
   refine G.fin tab_ok (hr := ?_)
   simp only [oneOrTup, valR, rg, if_true, if_false, Int.reduceEq, *]
  ·try simp only [zqz] at h2
   apply G.seq
   refine G.rg tab_ok ok_l2Value (hk := ?_)
   refine G.fg [1, 3, 8, 16, 18, 19, 20, 21, 22, 23, 24, 25, 26, 27, 28, 29, 32, 33, 34, 35, 36, 37, 38, 39, 40, 41, 42, 43, 46, 47, 48, 49, 50, 51, 52, 53, 54, 55, 56, 57, 60, 61, 62, 63, 64, 65, 66, 67, 68, 69, 70] (hk := ?_)
   refine G.iff (h1 := fun h3 => ?_) (h2 := fun h3 => ?_)
   ·try simp only [zqz] at h3
    apply G.seq
    obtain ⟨q0, q1, q2, q3⟩ := hc1.b0 (by simp only; omega)
    simp only at q0 q1 q2 q3
    have q4 : c.toNat < rs.length := by omega
    have q5 : d.toNat < rs.length := by omega
    have tb : -999999 ≤ rs.getD c.toNat default ∧ rs.getD c.toNat default ≤ 999999 := hc1.rg q0 q1
    have tc : -999999 ≤ rs.getD d.toNat default ∧ rs.getD d.toNat default ≤ 999999 := hc1.rg q2 q3
    have hw : IntKind.i64.wrap (rs.getD c.toNat default + rs.getD d.toNat default) = rs.getD c.toNat default + rs.getD d.toNat default := wrap64 (by omega) (by omega)
    refine G.dr mixed tab_ok ok_l2Value [0, 1, 2, 3, 4, 5, 6, 7, 8, 9, 10, 11, 12] (hk := ?_)
    refine G.fin tab_ok (hr := ?_)
    simp only [oneOrTup, valR, rg, if_true, if_false, Int.reduceEq, *]
   ·try simp only [zqz] at h3
    apply G.seq
    refine G.rg tab_ok ok_l2Value (hk := ?_)
    refine G.iff (h1 := fun h4 => ?_) (h2 := fun h4 => ?_)
    ·try simp only [zqz] at h4
     apply G.seq
     obtain ⟨q0, q1, q2, q3⟩ := hc1.b0 (by simp only; omega)
     simp only at q0 q1 q2 q3
     have q4 : c.toNat < rs.length := by omega
     have q5 : d.toNat < rs.length := by omega
     have tb : -999999 ≤ rs.getD c.toNat default ∧ rs.getD c.toNat default ≤ 999999 := hc1.rg q0 q1
     have tc : -999999 ≤ rs.getD d.toNat default ∧ rs.getD d.toNat default ≤ 999999 := hc1.rg q2 q3
     have hw : IntKind.i64.wrap (rs.getD c.toNat default - rs.getD d.toNat default) = rs.getD c.toNat default - rs.getD d.toNat default := wrap64 (by omega) (by omega)
     refine G.dr mixed tab_ok ok_l2Value [0, 1, 2, 3, 4, 5, 6, 7, 8, 9, 10, 11, 12] (hk := ?_)
     refine G.fin tab_ok (hr := ?_)
     simp only [oneOrTup, valR, rg, if_true, if_false, Int.reduceEq, *]
    ·try simp only [zqz] at h4
     apply G.seq
     refine G.rg tab_ok ok_l2Value (hk := ?_)
     refine G.iff (h1 := fun h5 => ?_) (h2 := fun h5 => ?_)
     ·try simp only [zqz] at h5
      apply G.seq
      obtain ⟨q0, q1, q2, q3⟩ := hc1.b0 (by simp only; omega)
      simp only at q0 q1 q2 q3
      have q4 : c.toNat < rs.length := by omega
      have q5 : d.toNat < rs.length := by omega
      have tb : -999999 ≤ rs.getD c.toNat default ∧ rs.getD c.toNat default ≤ 999999 := hc1.rg q0 q1
      have tc : -999999 ≤ rs.getD d.toNat default ∧ rs.getD d.toNat default ≤ 999999 := hc1.rg q2 q3
      have hmul : -999998000001 ≤ rs.getD c.toNat default * rs.getD d.toNat default ∧ rs.getD c.toNat default * rs.getD d.toNat default ≤ 999998000001 := mul_tok tb tc
      have hw : IntKind.i64.wrap (rs.getD c.toNat default * rs.getD d.toNat default) = rs.getD c.toNat default * rs.getD d.toNat default := wrap64 (by omega) (by omega)
      refine G.dr mixed tab_ok ok_l2Value [0, 1, 2, 3, 4, 5, 6, 7, 8, 9, 10, 11, 12] (hk := ?_)
      refine G.fin tab_ok (hr := ?_)
      simp only [oneOrTup, valR, rg, if_true, if_false, Int.reduceEq, *]
     ·try simp only [zqz] at h5
      apply G.seq
      refine G.rg tab_ok ok_l2Value (hk := ?_)
      refine G.iff (h1 := fun h6 => ?_) (h2 := fun h6 => ?_)
      ·try simp only [zqz] at h6
       apply G.seq
       obtain ⟨q0, q1, q2, q3⟩ := hc1.b0 (by simp only; omega)
       simp only at q0 q1 q2 q3
       have q4 : c.toNat < rs.length := by omega
       have q5 : d.toNat < rs.length := by omega
       have tb : -999999 ≤ rs.getD c.toNat default ∧ rs.getD c.toNat default ≤ 999999 := hc1.rg q0 q1
       have tc : -999999 ≤ rs.getD d.toNat default ∧ rs.getD d.toNat default ≤ 999999 := hc1.rg q2 q3
       refine G.dr mixed tab_ok ok_l2Value [0, 1, 2, 3, 4, 5, 6, 7, 8, 9, 10, 11] (hk := ?_)
       refine G.fin tab_ok (hr := ?_)
       simp only [oneOrTup, valR, rg, if_true, if_false, Int.reduceEq, *]
      ·try simp only [zqz] at h6
       apply G.skip
       apply G.blk
       apply G.seq
       refine G.rg tab_ok ok_l2Value (hk := ?_)
       refine G.fin tab_ok (hr := ?_)
       simp only [oneOrTup, valR, rg, if_true, if_false, Int.reduceEq, *]
def r_l2Value (xs0 : List A) (rr : A) : Prop := ∃ (a : Int) (b : Int) (c : Int) (d : Int) (rs : List Int) (token : Int), (RegOk (a, b, c, d) rs) ∧ xs0 = [.agg [.int .i64 a, .int .i64 b, .int .i64 c, .int .i64 d], .row false 1 (rs.map iv), .int .i64 token] ∧ rr = .int .i64 (valR (a, b, c, d) rs token)
noncomputable def q_l2Value : List A → Option A := kgr r_l2Value
theorem k_l2Value : KOk Try.prog (184, q_l2Value) := kgr_ok (enters_of Try.func184 rfl rfl) (by rintro xs0 rr ⟨a, b, c, d, rs, token, hc1, rfl, rfl⟩; exact l2Value_ac a b c d rs token hc1)
theorem e_l2Value : ∀ (a : Int) (b : Int) (c : Int) (d : Int) (rs : List Int) (token : Int), (RegOk (a, b, c, d) rs) → q_l2Value [.agg [.int .i64 a, .int .i64 b, .int .i64 c, .int .i64 d], .row false 1 (rs.map iv), .int .i64 token] = some (.int .i64 (valR (a, b, c, d) rs token)) := by
 intro a b c d rs token hc1
 refine kgr_eq (fun xs0 rr r2 h h2 => ?_) ⟨a, b, c, d, rs, token, hc1, rfl, rfl⟩
 obtain ⟨a1, b1, c1, d1, rs1, token1, _, e1, rfl⟩ := h; obtain ⟨a2, b2, c2, d2, rs2, token2, _, e2, rfl⟩ := h2
 rw [e1] at e2
 simp only [List.cons.injEq, A.int.injEq, A.bool.injEq, A.agg.injEq, A.row.injEq, A.fn.injEq, A.rp.injEq, insv_inj, iv_inj, true_and, and_true] at e2
 simp [e2]
theorem ok_implStep : Kn.ok Try.prog (kof [(131, q_implWrap), (164, q_implRest)]) := kof_cons k_implWrap (kof_cons k_implRest ((kof_nil _)))
theorem implStep_mc (h : Heap) (i : Int) (o : Int) (l : List I4) (pc : Int) (rs : List Int) (token : Int) (hc1 : h = [some (2, [[.int .i64 pc, .sl 1 0 rs.length]]), some (1, rs.map iv)]) (hc2 : 0 ≤ pc) (hc3 : pc < (l.length : Int)) (hc4 : l.length ≤ 24) (hc5 : RegOk (l.getD pc.toNat default) rs) : MC Try.prog 102 h [.agg [.int .i64 i, .int .i64 o, .row false 4 (l.map insv)], .ptr 0 0 0, .int .i64 token] (.int .i64 (stepW (l.getD pc.toNat default) rs)) ([some (2, [[.int .i64 (stepPc (l.getD pc.toNat default) pc rs), .sl 1 0 rs.length]]), some (1, (stepRs (l.getD pc.toNat default) rs token).map iv)]) := by
 have e_implWrap := e_implWrap
 have e_implRest := e_implRest
 subst hc1
 obtain ⟨⟨a, b, c, d⟩, hX⟩ : ∃ x, l.getD pc.toNat default = x := ⟨_, rfl⟩
 rw [hX] at hc5
 simp only [hX]
 have hb := hc5.b8
 have ha0 : 0 ≤ b := hc5.a0
 have ha1 : b < (rs.length : Int) := hc5.a1
 have ha2 : b.toNat < rs.length := by omega
 have hpl : pc.toNat < l.length := by omega
 have hget : (List.map iv rs)[b.toNat]? = some [.int .i64 (rs.getD b.toNat default)] := by simp [ha2, iv]
 have hset : ∀ v : Int, (List.map iv rs).set b.toNat [.int .i64 v] = List.map iv (rs.set b.toNat v) := fun v => by rw [List.map_set]; rfl
 have hlset : ∀ v : Int, rs.length ≤ (rs.set b.toNat v).length := fun v => by simp
 have htk : ∀ v : Int, List.take rs.length (List.map iv (rs.set b.toNat v)) = List.map iv (rs.set b.toNat v) := fun v => List.take_of_length_le (by simp)
 have hsame : rs.set b.toNat (rs.getD b.toNat default) = rs := by
  rw [List.getD_eq_getElem?_getD, List.getElem?_eq_getElem ha2]
  exact List.set_getElem_self ha2
 have hsame0 : ∀ v : Int, rs.getD b.toNat default = v → rs.set b.toNat v = rs := fun v h => by rw [← h]; exact hsame
 have hwp : IntKind.i64.wrap (pc + 1) = pc + 1 := wrap64 (by omega) (by omega)
 refine MC.of tab_ok Try.func102 rfl (Nat.le_of_ble_eq_true rfl) fun w0 S0 fs0 φ0 hφ0 hq0 => ?_
 change G _ _ ⟨[(0, .agg [.int .i64 i, .int .i64 o, .row false 4 (l.map insv)]), (1, .ptr 0 0 0), (2, .int .i64 token)], _, 156⟩
 apply G.seq
 refine G.rg tab_ok ok_implStep (hk := ?_)
 apply G.seq
 apply G.joinR
 ·intro hk
  refine G.drawL (c := ⟨Try.prog, tab, _, _, _, _, _⟩) mixed tab_ok ok_implStep 15 ?_ rfl
  refine AnyL.gg (n := 4) 11 [0, 1, 2, 3, 4, 5, 6, 7, 8, 9, 10] (h := ?_)
  refine AnyL.tl (n := 3) 11 19 (h := ?_)
  refine AnyL.gg (n := 0) 3 [12, 13, 14] (h := ?_)
  exact AnyL.lf [1, 2, 7, 8, 54, 55, 56, 57, 58, 59, 60, 61, 62, 63, 64, 65, 66, 67, 68, 69, 72, 73, 74, 75, 76, 77, 78, 79, 80, 81, 82, 83, 84, 85, 86, 87, 90, 91, 92, 93, 94, 95, 96, 97, 98, 99, 100, 101, 102, 103, 104, 105, 108, 109, 110, 111, 112, 113, 114, 115, 116, 117, 118, 119, 120, 121, 122] (hk := hk)
 apply G.seq
 refine G.rg tab_ok ok_implStep (hk := ?_)
 apply G.seq
 apply G.seq
 refine G.rg tab_ok ok_implStep (hk := ?_)
 apply G.block
 apply G.seq
 refine G.rg tab_ok ok_implStep (hk := ?_)
 refine G.fg [1, 2, 7, 8, 29, 30, 54, 55, 56, 57, 58, 59, 60, 61, 62, 63, 64, 65, 66, 67, 68, 69, 72, 73, 74, 75, 76, 77, 78, 79, 80, 81, 82, 83, 84, 85, 86, 87, 90, 91, 92, 93, 94, 95, 96, 97, 98, 99, 100, 101, 102, 103, 104, 105, 108, 109, 110, 111, 112, 113, 114, 115, 116, 117, 118, 119, 120, 121, 122] (hk := ?_)
 refine G.iff (h1 := fun h1 => ?_) (h2 := fun h1 => ?_)
 ·try simp only [zqz] at h1
  refine G.rg tab_ok ok_implStep (hk := ?_)
  apply G.blk
  apply G.seq
  refine G.rg tab_ok ok_implStep (hk := ?_)
  refine G.finM (junk := [some (3, [[.int .i64 i, .int .i64 o, .row false 4 (l.map insv)]]), some (4, [[.int .i64 a, .int .i64 b, .int .i64 c, .int .i64 d]])]) tab_ok (hr := ?_) (hh := ?_) (hq := ?_) (hl := ?_)
  ·first | rfl | (simp only [oneOrTup, stepW, rg, if_true, if_false, Int.reduceEq, *]; done) | (simp only [oneOrTup, stepW, rg, if_true, if_false, Int.reduceEq, *]; rfl)
  ·simp only [List.cons_append, List.nil_append, stepPc, stepRs, valR, rg, if_true, if_false, Int.reduceEq, false_and, true_and, and_false, and_true, or_self, or_false, false_or, or_true, true_or, not_false_eq_true, *]
   all_goals (rw [if_neg (by omega)])
  ·show (refLL _ _ && (refLL _ _ && true)) = true
   rw [pureLL_ref (pureLL_iv _)]
   rfl
  ·rw [hφ0]; exact Nat.le_refl _
 ·try simp only [zqz] at h1
  apply G.seq
  refine G.rg tab_ok ok_implStep (hk := ?_)
  refine G.iff (h1 := fun h2 => ?_) (h2 := fun h2 => ?_)
  ·try simp only [zqz] at h2
   apply G.seq
   refine G.rg tab_ok ok_implStep (hk := ?_)
   refine G.finM (junk := [some (3, [[.int .i64 i, .int .i64 o, .row false 4 (l.map insv)]]), some (4, [[.int .i64 a, .int .i64 b, .int .i64 c, .int .i64 d]])]) tab_ok (hr := ?_) (hh := ?_) (hq := ?_) (hl := ?_)
   ·first | rfl | (simp only [oneOrTup, stepW, rg, if_true, if_false, Int.reduceEq, *]; done) | (simp only [oneOrTup, stepW, rg, if_true, if_false, Int.reduceEq, *]; rfl)
   ·simp only [List.cons_append, List.nil_append, stepPc, stepRs, valR, rg, if_true, if_false, Int.reduceEq, false_and, true_and, and_false, and_true, or_self, or_false, false_or, or_true, true_or, not_false_eq_true, *]
    all_goals (rw [if_neg (by omega)])
   ·show (refLL _ _ && (refLL _ _ && true)) = true
    rw [pureLL_ref (pureLL_iv _)]
    rfl
   ·rw [hφ0]; exact Nat.le_refl _
  ·try simp only [zqz] at h2
   apply G.seq
   refine G.rg tab_ok ok_implStep (hk := ?_)
   refine G.iff (h1 := fun h3 => ?_) (h2 := fun h3 => ?_)
   ·try simp only [zqz] at h3
    refine G.rg tab_ok ok_implStep (hk := ?_)
    apply G.blk
    apply G.seq
    refine G.rg tab_ok ok_implStep (hk := ?_)
    refine G.finM (junk := [some (3, [[.int .i64 i, .int .i64 o, .row false 4 (l.map insv)]]), some (4, [[.int .i64 a, .int .i64 b, .int .i64 c, .int .i64 d]])]) tab_ok (hr := ?_) (hh := ?_) (hq := ?_) (hl := ?_)
    ·first | rfl | (simp only [oneOrTup, stepW, rg, if_true, if_false, Int.reduceEq, *]; done) | (simp only [oneOrTup, stepW, rg, if_true, if_false, Int.reduceEq, *]; rfl)
    ·simp only [List.cons_append, List.nil_append, stepPc, stepRs, valR, rg, if_true, if_false, Int.reduceEq, false_and, true_and, and_false, and_true, or_self, or_false, false_or, or_true, true_or, not_false_eq_true, *]
     all_goals (rw [if_neg (by omega)])
    ·show (refLL _ _ && (refLL _ _ && true)) = true
     rw [pureLL_ref (pureLL_iv _)]
     rfl
    ·rw [hφ0]; exact Nat.le_refl _
   ·try simp only [zqz] at h3
    apply G.seq
    refine G.rg tab_ok ok_implStep (hk := ?_)
    refine G.iff (h1 := fun h4 => ?_) (h2 := fun h4 => ?_)
    ·try simp only [zqz] at h4
     obtain ⟨q0, q1, q2, q3⟩ := hc5.b0 (by simp only; omega)
     simp only at q0 q1 q2 q3
     have q4 : c.toNat < rs.length := by omega
     have q5 : d.toNat < rs.length := by omega
     have tb : -999999 ≤ rs.getD c.toNat default ∧ rs.getD c.toNat default ≤ 999999 := hc5.rg q0 q1
     have tc : -999999 ≤ rs.getD d.toNat default ∧ rs.getD d.toNat default ≤ 999999 := hc5.rg q2 q3
     have hw : IntKind.i64.wrap (rs.getD c.toNat default + rs.getD d.toNat default) = rs.getD c.toNat default + rs.getD d.toNat default := wrap64 (by omega) (by omega)
     refine G.dr mixed tab_ok ok_implStep [0, 1, 2, 3, 4, 5, 6, 7, 8, 9, 10, 11, 12, 13, 14, 15, 16] (hk := ?_)
     apply G.blk
     apply G.seq
     refine G.rg tab_ok ok_implStep (hk := ?_)
     refine G.finM (junk := [some (3, [[.int .i64 i, .int .i64 o, .row false 4 (l.map insv)]]), some (4, [[.int .i64 a, .int .i64 b, .int .i64 c, .int .i64 d]])]) tab_ok (hr := ?_) (hh := ?_) (hq := ?_) (hl := ?_)
     ·first | rfl | (simp only [oneOrTup, stepW, rg, if_true, if_false, Int.reduceEq, *]; done) | (simp only [oneOrTup, stepW, rg, if_true, if_false, Int.reduceEq, *]; rfl)
     ·simp only [List.cons_append, List.nil_append, stepPc, stepRs, valR, rg, if_true, if_false, Int.reduceEq, false_and, true_and, and_false, and_true, or_self, or_false, false_or, or_true, true_or, not_false_eq_true, *]
      all_goals (rw [if_neg (by omega)])
     ·show (refLL _ _ && (refLL _ _ && true)) = true
      rw [pureLL_ref (pureLL_iv _)]
      rfl
     ·rw [hφ0]; exact Nat.le_refl _
    ·try simp only [zqz] at h4
     apply G.seq
     refine G.rg tab_ok ok_implStep (hk := ?_)
     refine G.iff (h1 := fun h5 => ?_) (h2 := fun h5 => ?_)
     ·try simp only [zqz] at h5
      obtain ⟨q0, q1, q2, q3⟩ := hc5.b0 (by simp only; omega)
      simp only at q0 q1 q2 q3
      have q4 : c.toNat < rs.length := by omega
      have q5 : d.toNat < rs.length := by omega
      have tb : -999999 ≤ rs.getD c.toNat default ∧ rs.getD c.toNat default ≤ 999999 := hc5.rg q0 q1
      have tc : -999999 ≤ rs.getD d.toNat default ∧ rs.getD d.toNat default ≤ 999999 := hc5.rg q2 q3
      have hw : IntKind.i64.wrap (rs.getD c.toNat default - rs.getD d.toNat default) = rs.getD c.toNat default - rs.getD d.toNat default := wrap64 (by omega) (by omega)
      refine G.dr mixed tab_ok ok_implStep [0, 1, 2, 3, 4, 5, 6, 7, 8, 9, 10, 11, 12, 13, 14, 15, 16] (hk := ?_)
      apply G.blk
      apply G.seq
      refine G.rg tab_ok ok_implStep (hk := ?_)
      refine G.finM (junk := [some (3, [[.int .i64 i, .int .i64 o, .row false 4 (l.map insv)]]), some (4, [[.int .i64 a, .int .i64 b, .int .i64 c, .int .i64 d]])]) tab_ok (hr := ?_) (hh := ?_) (hq := ?_) (hl := ?_)
      ·first | rfl | (simp only [oneOrTup, stepW, rg, if_true, if_false, Int.reduceEq, *]; done) | (simp only [oneOrTup, stepW, rg, if_true, if_false, Int.reduceEq, *]; rfl)
      ·simp only [List.cons_append, List.nil_append, stepPc, stepRs, valR, rg, if_true, if_false, Int.reduceEq, false_and, true_and, and_false, and_true, or_self, or_false, false_or, or_true, true_or, not_false_eq_true, *]
       all_goals (rw [if_neg (by omega)])
      ·show (refLL _ _ && (refLL _ _ && true)) = true
       rw [pureLL_ref (pureLL_iv _)]
       rfl
      ·rw [hφ0]; exact Nat.le_refl _
     ·try simp only [zqz] at h5
      apply G.seq
      refine G.rg tab_ok ok_implStep (hk := ?_)
      refine G.fg [1, 7, 8, 29, 88, 90, 91, 92, 93, 94, 95, 96, 97, 98, 99, 100, 101, 102, 103, 104, 105, 108, 109, 110, 111, 112, 113, 114, 115, 116, 117, 118, 119, 120, 121, 122] (hk := ?_)
      refine G.iff (h1 := fun h6 => ?_) (h2 := fun h6 => ?_)
      ·try simp only [zqz] at h6
       obtain ⟨q0, q1, q2, q3⟩ := hc5.b0 (by simp only; omega)
       simp only at q0 q1 q2 q3
       have q4 : c.toNat < rs.length := by omega
       have q5 : d.toNat < rs.length := by omega
       have tb : -999999 ≤ rs.getD c.toNat default ∧ rs.getD c.toNat default ≤ 999999 := hc5.rg q0 q1
       have tc : -999999 ≤ rs.getD d.toNat default ∧ rs.getD d.toNat default ≤ 999999 := hc5.rg q2 q3
       have hmul : -999998000001 ≤ rs.getD c.toNat default * rs.getD d.toNat default ∧ rs.getD c.toNat default * rs.getD d.toNat default ≤ 999998000001 := mul_tok tb tc
       have hw : IntKind.i64.wrap (rs.getD c.toNat default * rs.getD d.toNat default) = rs.getD c.toNat default * rs.getD d.toNat default := wrap64 (by omega) (by omega)
       refine G.dr mixed tab_ok ok_implStep [0, 1, 2, 3, 4, 5, 6, 7, 8, 9, 10, 11, 12, 13, 14, 15, 16] (hk := ?_)
       apply G.blk
       apply G.seq
       refine G.rg tab_ok ok_implStep (hk := ?_)
       refine G.finM (junk := [some (3, [[.int .i64 i, .int .i64 o, .row false 4 (l.map insv)]]), some (4, [[.int .i64 a, .int .i64 b, .int .i64 c, .int .i64 d]])]) tab_ok (hr := ?_) (hh := ?_) (hq := ?_) (hl := ?_)
       ·first | rfl | (simp only [oneOrTup, stepW, rg, if_true, if_false, Int.reduceEq, *]; done) | (simp only [oneOrTup, stepW, rg, if_true, if_false, Int.reduceEq, *]; rfl)
       ·simp only [List.cons_append, List.nil_append, stepPc, stepRs, valR, rg, if_true, if_false, Int.reduceEq, false_and, true_and, and_false, and_true, or_self, or_false, false_or, or_true, true_or, not_false_eq_true, *]
        all_goals (rw [if_neg (by omega)])
       ·show (refLL _ _ && (refLL _ _ && true)) = true
        rw [pureLL_ref (pureLL_iv _)]
        rfl
       ·rw [hφ0]; exact Nat.le_refl _
      ·try simp only [zqz] at h6
       apply G.seq
       refine G.rg tab_ok ok_implStep (hk := ?_)
       refine G.iff (h1 := fun h7 => ?_) (h2 := fun h7 => ?_)
       ·try simp only [zqz] at h7
        obtain ⟨q0, q1, q2, q3⟩ := hc5.b0 (by simp only; omega)
        simp only at q0 q1 q2 q3
        have q4 : c.toNat < rs.length := by omega
        have q5 : d.toNat < rs.length := by omega
        have tb : -999999 ≤ rs.getD c.toNat default ∧ rs.getD c.toNat default ≤ 999999 := hc5.rg q0 q1
        have tc : -999999 ≤ rs.getD d.toNat default ∧ rs.getD d.toNat default ≤ 999999 := hc5.rg q2 q3
        refine G.dr mixed tab_ok ok_implStep [0, 1, 2, 3, 4, 5, 6, 7, 8, 9, 10, 11, 12, 13, 14, 15] (hk := ?_)
        apply G.blk
        apply G.seq
        refine G.rg tab_ok ok_implStep (hk := ?_)
        refine G.finM (junk := [some (3, [[.int .i64 i, .int .i64 o, .row false 4 (l.map insv)]]), some (4, [[.int .i64 a, .int .i64 b, .int .i64 c, .int .i64 d]])]) tab_ok (hr := ?_) (hh := ?_) (hq := ?_) (hl := ?_)
        ·first | rfl | (simp only [oneOrTup, stepW, rg, if_true, if_false, Int.reduceEq, *]; done) | (simp only [oneOrTup, stepW, rg, if_true, if_false, Int.reduceEq, *]; rfl)
        ·simp only [List.cons_append, List.nil_append, stepPc, stepRs, valR, rg, if_true, if_false, Int.reduceEq, false_and, true_and, and_false, and_true, or_self, or_false, false_or, or_true, true_or, not_false_eq_true, *]
         all_goals (rw [if_neg (by omega)])
        ·show (refLL _ _ && (refLL _ _ && true)) = true
         rw [pureLL_ref (pureLL_iv _)]
         rfl
        ·rw [hφ0]; exact Nat.le_refl _
       ·try simp only [zqz] at h7
        apply G.seq
        refine G.rg tab_ok ok_implStep (hk := ?_)
        refine G.iff (h1 := fun h8 => ?_) (h2 := fun h8 => ?_)
        ·try simp only [zqz] at h8
         refine G.rg tab_ok ok_implStep (hk := ?_)
         apply G.blk
         apply G.seq
         refine G.rg tab_ok ok_implStep (hk := ?_)
         refine G.finM (junk := [some (3, [[.int .i64 i, .int .i64 o, .row false 4 (l.map insv)]]), some (4, [[.int .i64 a, .int .i64 b, .int .i64 c, .int .i64 d]])]) tab_ok (hr := ?_) (hh := ?_) (hq := ?_) (hl := ?_)
         ·first | rfl | (simp only [oneOrTup, stepW, rg, if_true, if_false, Int.reduceEq, *]; done) | (simp only [oneOrTup, stepW, rg, if_true, if_false, Int.reduceEq, *]; rfl)
         ·simp only [List.cons_append, List.nil_append, stepPc, stepRs, valR, rg, if_true, if_false, Int.reduceEq, false_and, true_and, and_false, and_true, or_self, or_false, false_or, or_true, true_or, not_false_eq_true, *]
          all_goals (rw [if_neg (by omega)])
         ·show (refLL _ _ && (refLL _ _ && true)) = true
          rw [pureLL_ref (pureLL_iv _)]
          rfl
         ·rw [hφ0]; exact Nat.le_refl _
        ·try simp only [zqz] at h8
         apply G.seq
         refine G.rg tab_ok ok_implStep (hk := ?_)
         refine G.iff (h1 := fun h9 => ?_) (h2 := fun h9 => ?_)
         ·try simp only [zqz] at h9
          apply G.seq
          refine G.rg tab_ok ok_implStep (hk := ?_)
          refine G.fg [1, 7, 137] (hk := ?_)
          refine G.iff (h1 := fun h10 => ?_) (h2 := fun h10 => ?_)
          ·try simp only [zqz] at h10
           refine G.rg tab_ok ok_implStep (hk := ?_)
           apply G.blk
           apply G.seq
           refine G.rg tab_ok ok_implStep (hk := ?_)
           refine G.finM (junk := [some (3, [[.int .i64 i, .int .i64 o, .row false 4 (l.map insv)]]), some (4, [[.int .i64 a, .int .i64 b, .int .i64 c, .int .i64 d]])]) tab_ok (hr := ?_) (hh := ?_) (hq := ?_) (hl := ?_)
           ·first | rfl | (simp only [oneOrTup, stepW, rg, if_true, if_false, Int.reduceEq, *]; done) | (simp only [oneOrTup, stepW, rg, if_true, if_false, Int.reduceEq, *]; rfl)
           ·simp only [List.cons_append, List.nil_append, stepPc, stepRs, valR, rg, if_true, if_false, Int.reduceEq, false_and, true_and, and_false, and_true, or_self, or_false, false_or, or_true, true_or, not_false_eq_true, *]
            all_goals (rw [if_neg (by omega)])
           ·show (refLL _ _ && (refLL _ _ && true)) = true
            rw [pureLL_ref (pureLL_iv _)]
            rfl
           ·rw [hφ0]; exact Nat.le_refl _
          ·try simp only [zqz] at h10
           apply G.skip
           apply G.blk
           apply G.seq
           refine G.rg tab_ok ok_implStep (hk := ?_)
           refine G.finM (junk := [some (3, [[.int .i64 i, .int .i64 o, .row false 4 (l.map insv)]]), some (4, [[.int .i64 a, .int .i64 b, .int .i64 c, .int .i64 d]])]) tab_ok (hr := ?_) (hh := ?_) (hq := ?_) (hl := ?_)
           ·first | rfl | (simp only [oneOrTup, stepW, rg, if_true, if_false, Int.reduceEq, *]; done) | (simp only [oneOrTup, stepW, rg, if_true, if_false, Int.reduceEq, *]; rfl)
           ·simp only [List.cons_append, List.nil_append, stepPc, stepRs, valR, rg, if_true, if_false, Int.reduceEq, false_and, true_and, and_false, and_true, or_self, or_false, false_or, or_true, true_or, not_false_eq_true, *]
            all_goals (rw [if_neg (by omega)])
           ·show (refLL _ _ && (refLL _ _ && true)) = true
            rw [pureLL_ref (pureLL_iv _)]
            rfl
           ·rw [hφ0]; exact Nat.le_refl _
         ·try simp only [zqz] at h9
          apply G.seq
          refine G.rg tab_ok ok_implStep (hk := ?_)
          refine G.iff (h1 := fun h11 => ?_) (h2 := fun h11 => ?_)
          ·try simp only [zqz] at h11
           apply G.seq
           refine G.rg tab_ok ok_implStep (hk := ?_)
           refine G.fg [1, 7, 150] (hk := ?_)
           refine G.iff (h1 := fun h12 => ?_) (h2 := fun h12 => ?_)
           ·try simp only [zqz] at h12
            refine G.rg tab_ok ok_implStep (hk := ?_)
            apply G.blk
            apply G.seq
            refine G.rg tab_ok ok_implStep (hk := ?_)
            refine G.finM (junk := [some (3, [[.int .i64 i, .int .i64 o, .row false 4 (l.map insv)]]), some (4, [[.int .i64 a, .int .i64 b, .int .i64 c, .int .i64 d]])]) tab_ok (hr := ?_) (hh := ?_) (hq := ?_) (hl := ?_)
            ·first | rfl | (simp only [oneOrTup, stepW, rg, if_true, if_false, Int.reduceEq, *]; done) | (simp only [oneOrTup, stepW, rg, if_true, if_false, Int.reduceEq, *]; rfl)
            ·simp only [List.cons_append, List.nil_append, stepPc, stepRs, valR, rg, if_true, if_false, Int.reduceEq, false_and, true_and, and_false, and_true, or_self, or_false, false_or, or_true, true_or, not_false_eq_true, *]
             all_goals (rw [if_neg (by omega)])
            ·show (refLL _ _ && (refLL _ _ && true)) = true
             rw [pureLL_ref (pureLL_iv _)]
             rfl
            ·rw [hφ0]; exact Nat.le_refl _
           ·try simp only [zqz] at h12
            apply G.skip
            apply G.blk
            apply G.seq
            refine G.rg tab_ok ok_implStep (hk := ?_)
            refine G.finM (junk := [some (3, [[.int .i64 i, .int .i64 o, .row false 4 (l.map insv)]]), some (4, [[.int .i64 a, .int .i64 b, .int .i64 c, .int .i64 d]])]) tab_ok (hr := ?_) (hh := ?_) (hq := ?_) (hl := ?_)
            ·first | rfl | (simp only [oneOrTup, stepW, rg, if_true, if_false, Int.reduceEq, *]; done) | (simp only [oneOrTup, stepW, rg, if_true, if_false, Int.reduceEq, *]; rfl)
            ·simp only [List.cons_append, List.nil_append, stepPc, stepRs, valR, rg, if_true, if_false, Int.reduceEq, false_and, true_and, and_false, and_true, or_self, or_false, false_or, or_true, true_or, not_false_eq_true, *]
             all_goals (rw [if_neg (by omega)])
            ·show (refLL _ _ && (refLL _ _ && true)) = true
             rw [pureLL_ref (pureLL_iv _)]
             rfl
            ·rw [hφ0]; exact Nat.le_refl _
          ·try simp only [zqz] at h11
           apply G.skip
           apply G.blk
           apply G.seq
           refine G.rg tab_ok ok_implStep (hk := ?_)
           refine G.finM (junk := [some (3, [[.int .i64 i, .int .i64 o, .row false 4 (l.map insv)]]), some (4, [[.int .i64 a, .int .i64 b, .int .i64 c, .int .i64 d]])]) tab_ok (hr := ?_) (hh := ?_) (hq := ?_) (hl := ?_)
           ·first | rfl | (simp only [oneOrTup, stepW, rg, if_true, if_false, Int.reduceEq, *]; done) | (simp only [oneOrTup, stepW, rg, if_true, if_false, Int.reduceEq, *]; rfl)
           ·simp only [List.cons_append, List.nil_append, stepPc, stepRs, valR, rg, if_true, if_false, Int.reduceEq, false_and, true_and, and_false, and_true, or_self, or_false, false_or, or_true, true_or, not_false_eq_true, *]
            all_goals (rw [if_neg (by omega)])
           ·show (refLL _ _ && (refLL _ _ && true)) = true
            rw [pureLL_ref (pureLL_iv _)]
            rfl
           ·rw [hφ0]; exact Nat.le_refl _
theorem cloneInt_ac (rs : List Int) (hc1 : rs.length ≤ 1048576) : AC Try.prog 71 [.row false 1 (rs.map iv)] (.row true 1 (rs.map iv)) := by
 have hb1 : ((0 + rs.length : Nat) : Int) ≤ 4611686018427387904 := by omega
 have hb2 : (0 + rs.length) * 8 ≤ 70368744177664 := by omega
 have hb3 : (rs.length : Int) ≤ 4611686018427387904 := by omega
 have hb4 : rs.length * 8 ≤ 70368744177664 := by omega
 refine AC.of tab_ok Try.func71 rfl (Nat.le_of_ble_eq_true rfl) fun w0 S0 => ?_
 change G _ _ ⟨[(0, .row false 1 (rs.map iv))], [], 8⟩
 apply G.seq
 refine G.rg tab_ok (kof_nil _) (hk := ?_)
 apply G.seq
 apply G.seq
 refine G.rgN 1 tab_ok (kof_nil _) (hk := ?_)
 refine G.opNil tab_ok rfl rfl rfl rfl rfl rfl rfl (h1 := fun hn => ?_) (h2 := ?_)
 ·refine G.rgC tab_ok (kof_nil _) (hk := ?_)
  refine G.iffT (h1 := ?_)
  apply G.seq
  refine G.rg tab_ok (kof_nil _) (hk := ?_)
  have e : rs = [] := by simpa using hn
  subst e
  refine G.nilRow 2 1 rfl ?_
  refine G.fin tab_ok (hr := ?_)
  rfl
 ·refine G.rgC tab_ok (kof_nil _) (hk := ?_)
  refine G.iffF (h2 := ?_)
  apply G.skip
  apply G.seq
  refine G.rg tab_ok (kof_nil _) (hk := ?_)
  refine G.fin tab_ok (hr := ?_)
  rfl
def r_cloneInt (xs0 : List A) (rr : A) : Prop := ∃ (rs : List Int), (rs.length ≤ 1048576) ∧ xs0 = [.row false 1 (rs.map iv)] ∧ rr = .row true 1 (rs.map iv)
noncomputable def q_cloneInt : List A → Option A := kgr r_cloneInt
theorem k_cloneInt : KOk Try.prog (71, q_cloneInt) := kgr_ok (enters_of Try.func71 rfl rfl) (by rintro xs0 rr ⟨rs, hc1, rfl, rfl⟩; exact cloneInt_ac rs hc1)
theorem e_cloneInt : ∀ (rs : List Int), (rs.length ≤ 1048576) → q_cloneInt [.row false 1 (rs.map iv)] = some (.row true 1 (rs.map iv)) := by
 intro rs hc1
 refine kgr_eq (fun xs0 rr r2 h h2 => ?_) ⟨rs, hc1, rfl, rfl⟩
 obtain ⟨rs1, _, e1, rfl⟩ := h; obtain ⟨rs2, _, e2, rfl⟩ := h2
 rw [e1] at e2
 simp only [List.cons.injEq, A.int.injEq, A.bool.injEq, A.agg.injEq, A.row.injEq, A.fn.injEq, A.rp.injEq, insv_inj, iv_inj, true_and, and_true] at e2
 simp [e2]
theorem ok_implNewActorT : Kn.ok Try.prog (kof [(94, q_implIsProgram)]) := kof_cons k_implIsProgram ((kof_nil _))
theorem implNewActorT_ac (i : Int) (o : Int) (l : List I4) (hc1 : l.length < 4398046511104) (hc2 : progOk i o l = true) : AC Try.prog 32 [.agg [.int .i64 i, .int .i64 o, .row false 4 (l.map insv)]] (.agg [.int .i64 0, .row true 1 [[.int .i64 0], [.int .i64 0], [.int .i64 0], [.int .i64 0]]]) := by
 have e_implIsProgram := e_implIsProgram
 refine AC.of tab_ok Try.func32 rfl (Nat.le_of_ble_eq_true rfl) fun w0 S0 => ?_
 change G _ _ ⟨[(0, .agg [.int .i64 i, .int .i64 o, .row false 4 (l.map insv)])], [], 9⟩
 apply G.seq
 refine G.rg tab_ok ok_implNewActorT (hk := ?_)
 apply G.seq
 apply G.seq
 refine G.rg tab_ok ok_implNewActorT (hk := ?_)
 refine G.iffF (h2 := ?_)
 apply G.skip
 apply G.seq
 refine G.rg tab_ok ok_implNewActorT (hk := ?_)
 refine G.fin tab_ok (hr := ?_)
 rfl
theorem ok_implNewActorF : Kn.ok Try.prog (kof [(94, q_implIsProgram)]) := kof_cons k_implIsProgram ((kof_nil _))
theorem implNewActorF_ac (i : Int) (o : Int) (l : List I4) (hc1 : l.length < 4398046511104) (hc2 : progOk i o l = false) : AC Try.prog 32 [.agg [.int .i64 i, .int .i64 o, .row false 4 (l.map insv)]] (.agg [.int .i64 0, .nils]) := by
 have e_implIsProgram := e_implIsProgram
 refine AC.of tab_ok Try.func32 rfl (Nat.le_of_ble_eq_true rfl) fun w0 S0 => ?_
 change G _ _ ⟨[(0, .agg [.int .i64 i, .int .i64 o, .row false 4 (l.map insv)])], [], 9⟩
 apply G.seq
 refine G.rg tab_ok ok_implNewActorF (hk := ?_)
 apply G.seq
 apply G.seq
 refine G.rg tab_ok ok_implNewActorF (hk := ?_)
 refine G.iffT (h1 := ?_)
 apply G.seq
 refine G.rg tab_ok ok_implNewActorF (hk := ?_)
 refine G.fin tab_ok (hr := ?_)
 rfl
theorem implNewActor_ac (i : Int) (o : Int) (l : List I4) (hc1 : l.length < 4398046511104) : AC Try.prog 32 [.agg [.int .i64 i, .int .i64 o, .row false 4 (l.map insv)]] (.agg [.int .i64 0, .row true 1 ((regs0 i o l).map iv)]) := by
 cases hp : progOk i o l with
 | true => have := implNewActorT_ac i o l hc1 hp; simpa [regs0, hp, iv] using this
 | false =>
  refine AC.weak (implNewActorF_ac i o l hc1 hp) fun w S v f h => ?_
  simp only [regs0, hp, Bool.false_eq_true, if_false, List.map_nil]
  exact weak_nil h
def r_implNewActor (xs0 : List A) (rr : A) : Prop := ∃ (i : Int) (o : Int) (l : List I4), (l.length < 4398046511104) ∧ xs0 = [.agg [.int .i64 i, .int .i64 o, .row false 4 (l.map insv)]] ∧ rr = .agg [.int .i64 0, .row true 1 ((regs0 i o l).map iv)]
noncomputable def q_implNewActor : List A → Option A := kgr r_implNewActor
theorem k_implNewActor : KOk Try.prog (32, q_implNewActor) := kgr_ok (enters_of Try.func32 rfl rfl) (by rintro xs0 rr ⟨i, o, l, hc1, rfl, rfl⟩; exact implNewActor_ac i o l hc1)
theorem e_implNewActor : ∀ (i : Int) (o : Int) (l : List I4), (l.length < 4398046511104) → q_implNewActor [.agg [.int .i64 i, .int .i64 o, .row false 4 (l.map insv)]] = some (.agg [.int .i64 0, .row true 1 ((regs0 i o l).map iv)]) := by
 intro i o l hc1
 refine kgr_eq (fun xs0 rr r2 h h2 => ?_) ⟨i, o, l, hc1, rfl, rfl⟩
 obtain ⟨i1, o1, l1, _, e1, rfl⟩ := h; obtain ⟨i2, o2, l2, _, e2, rfl⟩ := h2
 rw [e1] at e2
 simp only [List.cons.injEq, A.int.injEq, A.bool.injEq, A.agg.injEq, A.row.injEq, A.fn.injEq, A.rp.injEq, insv_inj, iv_inj, true_and, and_true] at e2
 simp [e2]
theorem ok_l2Step : Kn.ok Try.prog (kof [(154, q_l1Copy), (184, q_l2Value)]) := kof_cons k_l1Copy (kof_cons k_l2Value ((kof_nil _)))
theorem l2Step_ac (i : Int) (o : Int) (l : List I4) (pc : Int) (rs : List Int) (token : Int) (hc1 : 0 ≤ pc) (hc2 : pc < (l.length : Int)) (hc3 : l.length ≤ 24) (hc4 : RegOk (l.getD pc.toNat default) rs) : AC Try.prog 152 [.agg [.int .i64 i, .int .i64 o, .row false 4 (l.map insv)], .agg [.int .i64 pc, .row false 1 (rs.map iv)], .int .i64 token] (.tup [.agg [.int .i64 (stepPc (l.getD pc.toNat default) pc rs), .row true 1 ((stepRs (l.getD pc.toNat default) rs token).map iv)], .int .i64 (stepW (l.getD pc.toNat default) rs)]) := by
 have e_l1Copy := e_l1Copy
 have e_l2Value := e_l2Value
 obtain ⟨⟨a, b, c, d⟩, hX⟩ : ∃ x, l.getD pc.toNat default = x := ⟨_, rfl⟩
 rw [hX] at hc4
 simp only [hX]
 have hb := hc4.b8
 have ha0 : 0 ≤ b := hc4.a0
 have ha1 : b < (rs.length : Int) := hc4.a1
 have ha2 : b.toNat < rs.length := by omega
 have hpl : pc.toNat < l.length := by omega
 have hget : (List.map iv rs)[b.toNat]? = some [.int .i64 (rs.getD b.toNat default)] := by simp [ha2, iv]
 have hset : ∀ v : Int, (List.map iv rs).set b.toNat [.int .i64 v] = List.map iv (rs.set b.toNat v) := fun v => by rw [List.map_set]; rfl
 have hlset : ∀ v : Int, rs.length ≤ (rs.set b.toNat v).length := fun v => by simp
 have htk : ∀ v : Int, List.take rs.length (List.map iv (rs.set b.toNat v)) = List.map iv (rs.set b.toNat v) := fun v => List.take_of_length_le (by simp)
 have hsame : rs.set b.toNat (rs.getD b.toNat default) = rs := by
  rw [List.getD_eq_getElem?_getD, List.getElem?_eq_getElem ha2]
  exact List.set_getElem_self ha2
 have hsame0 : ∀ v : Int, rs.getD b.toNat default = v → rs.set b.toNat v = rs := fun v h => by rw [← h]; exact hsame
 have hwp : IntKind.i64.wrap (pc + 1) = pc + 1 := wrap64 (by omega) (by omega)
 have hcb : rs.length ≤ 1048576 := by omega
 refine AC.of tab_ok Try.func152 rfl (Nat.le_of_ble_eq_true rfl) fun w0 S0 => ?_
 change G _ _ ⟨[(0, .agg [.int .i64 i, .int .i64 o, .row false 4 (l.map insv)]), (1, .agg [.int .i64 pc, .row false 1 (rs.map iv)]), (2, .int .i64 token)], [], 79⟩
 apply G.seq
 refine G.rg tab_ok ok_l2Step (hk := ?_)
 apply G.seq
 refine G.rg tab_ok ok_l2Step (hk := ?_)
 apply G.seq
 apply G.joinR
 ·intro hk
  refine G.drawL (c := ⟨Try.prog, tab, _, _, _, _, _⟩) mixed tab_ok ok_l2Step 9 ?_ rfl
  refine AnyL.gg (n := 4) 5 [0, 1, 2, 3, 4] (h := ?_)
  refine AnyL.fk2 (n := 3) 5 7 (k1 := ?_) (k2 := ?_)
  ·skip
   refine AnyL.gg (n := 0) 3 [6, 7, 8] (h := ?_)
   exact AnyL.ln [2, 4, 6, 8, 9, 67, 68, 69, 70, 71, 72, 73, 74, 75, 76] (h := hk)
  ·skip
   refine AnyL.gg (n := 0) 3 [5, 6, 8] (h := ?_)
   exact AnyL.ln [2, 4, 6, 8, 9, 67, 68, 69, 70, 71, 72, 73, 74, 75, 76] (h := hk)
 apply G.seq
 refine G.rg tab_ok ok_l2Step (hk := ?_)
 apply G.seq
 apply G.seq
 refine G.rg tab_ok ok_l2Step (hk := ?_)
 refine G.fg [2, 4, 6, 8, 9, 10, 26, 67, 68, 69, 70, 71, 72, 73, 74, 75, 76] (hk := ?_)
 refine G.iff (h1 := fun h1 => ?_) (h2 := fun h1 => ?_)
 ·try simp only [zqz] at h1
  have h1w := h1
  clear h1
  change id _ at h1w
  refine G.rg tab_ok ok_l2Step (hk := ?_)
  apply G.seq
  apply G.seq
  refine G.rg tab_ok ok_l2Step (hk := ?_)
  refine G.fg [2, 4, 6, 8, 9, 10, 63, 67, 68, 69, 70, 71, 72, 73, 74, 75, 76] (hk := ?_)
  refine G.iff (h1 := fun h2 => ?_) (h2 := fun h2 => ?_)
  ·try simp only [zqz] at h2
   refine G.rg tab_ok ok_l2Step (hk := ?_)
   apply G.seq
   refine G.dr mixed tab_ok ok_l2Step [0, 1, 2, 3, 4, 5, 6, 7, 8, 9, 10] (hk := ?_)
   apply G.seq
   refine G.rg tab_ok ok_l2Step (hk := ?_)
   refine G.fin tab_ok (hr := ?_)
   have h1 : a = 2 := h1w
   have hs : stepPc (a, b, c, d) pc rs = c := if_pos (by simp only [rg]; omega)
   have hv : stepW (a, b, c, d) rs = rs.getD b.toNat default := by simp only [stepW, rg, h1, if_true, if_false, Int.reduceEq]
   simp only [oneOrTup, hs, hv, stepRs]
  ·try simp only [zqz] at h2
   apply G.skip
   apply G.seq
   refine G.dr mixed tab_ok ok_l2Step [0, 1, 2, 3, 4, 5, 6, 7, 8, 9, 10] (hk := ?_)
   apply G.seq
   refine G.rg tab_ok ok_l2Step (hk := ?_)
   refine G.fin tab_ok (hr := ?_)
   have h1 : a = 2 := h1w
   have hs : stepPc (a, b, c, d) pc rs = pc + 1 := if_neg (by simp only [rg]; omega)
   have hv : stepW (a, b, c, d) rs = rs.getD b.toNat default := by simp only [stepW, rg, h1, if_true, if_false, Int.reduceEq]
   simp only [oneOrTup, hs, hv, stepRs]
 ·try simp only [zqz] at h1
  have h1w := h1
  clear h1
  change id _ at h1w
  apply G.skip
  apply G.seq
  apply G.seq
  refine G.rg tab_ok ok_l2Step (hk := ?_)
  refine G.fg [2, 4, 6, 8, 9, 10, 63, 67, 68, 69, 70, 71, 72, 73, 74, 75, 76] (hk := ?_)
  refine G.iff (h1 := fun h3 => ?_) (h2 := fun h3 => ?_)
  ·try simp only [zqz] at h3
   refine G.rg tab_ok ok_l2Step (hk := ?_)
   apply G.seq
   refine G.dr mixed tab_ok ok_l2Step [0, 1, 2, 3, 4, 5, 6, 7, 8, 9, 10] (hk := ?_)
   apply G.seq
   refine G.rg tab_ok ok_l2Step (hk := ?_)
   refine G.fin tab_ok (hr := ?_)
   have h1 : ¬ a = 2 := h1w
   have hs : stepPc (a, b, c, d) pc rs = c := if_pos (by simp only [rg]; omega)
   have hv : stepW (a, b, c, d) rs = 0 := by simp only [stepW, rg, h1, if_true, if_false, Int.reduceEq]
   simp only [oneOrTup, hs, hv, stepRs]
  ·try simp only [zqz] at h3
   apply G.skip
   apply G.seq
   refine G.dr mixed tab_ok ok_l2Step [0, 1, 2, 3, 4, 5, 6, 7, 8, 9, 10] (hk := ?_)
   apply G.seq
   refine G.rg tab_ok ok_l2Step (hk := ?_)
   refine G.fin tab_ok (hr := ?_)
   have h1 : ¬ a = 2 := h1w
   have hs : stepPc (a, b, c, d) pc rs = pc + 1 := if_neg (by simp only [rg]; omega)
   have hv : stepW (a, b, c, d) rs = 0 := by simp only [stepW, rg, h1, if_true, if_false, Int.reduceEq]
   simp only [oneOrTup, hs, hv, stepRs]
def r_l2Step (xs0 : List A) (rr : A) : Prop := ∃ (i : Int) (o : Int) (l : List I4) (pc : Int) (rs : List Int) (token : Int), (0 ≤ pc) ∧ (pc < (l.length : Int)) ∧ (l.length ≤ 24) ∧ (RegOk (l.getD pc.toNat default) rs) ∧ xs0 = [.agg [.int .i64 i, .int .i64 o, .row false 4 (l.map insv)], .agg [.int .i64 pc, .row false 1 (rs.map iv)], .int .i64 token] ∧ rr = .tup [.agg [.int .i64 (stepPc (l.getD pc.toNat default) pc rs), .row true 1 ((stepRs (l.getD pc.toNat default) rs token).map iv)], .int .i64 (stepW (l.getD pc.toNat default) rs)]
noncomputable def q_l2Step : List A → Option A := kgr r_l2Step
theorem k_l2Step : KOk Try.prog (152, q_l2Step) := kgr_ok (enters_of Try.func152 rfl rfl) (by rintro xs0 rr ⟨i, o, l, pc, rs, token, hc1, hc2, hc3, hc4, rfl, rfl⟩; exact l2Step_ac i o l pc rs token hc1 hc2 hc3 hc4)
theorem e_l2Step : ∀ (i : Int) (o : Int) (l : List I4) (pc : Int) (rs : List Int) (token : Int), (0 ≤ pc) → (pc < (l.length : Int)) → (l.length ≤ 24) → (RegOk (l.getD pc.toNat default) rs) → q_l2Step [.agg [.int .i64 i, .int .i64 o, .row false 4 (l.map insv)], .agg [.int .i64 pc, .row false 1 (rs.map iv)], .int .i64 token] = some (.tup [.agg [.int .i64 (stepPc (l.getD pc.toNat default) pc rs), .row true 1 ((stepRs (l.getD pc.toNat default) rs token).map iv)], .int .i64 (stepW (l.getD pc.toNat default) rs)]) := by
 intro i o l pc rs token hc1 hc2 hc3 hc4
 refine kgr_eq (fun xs0 rr r2 h h2 => ?_) ⟨i, o, l, pc, rs, token, hc1, hc2, hc3, hc4, rfl, rfl⟩
 obtain ⟨i1, o1, l1, pc1, rs1, token1, _, _, _, _, e1, rfl⟩ := h; obtain ⟨i2, o2, l2, pc2, rs2, token2, _, _, _, _, e2, rfl⟩ := h2
 rw [e1] at e2
 simp only [List.cons.injEq, A.int.injEq, A.bool.injEq, A.agg.injEq, A.row.injEq, A.fn.injEq, A.rp.injEq, insv_inj, iv_inj, true_and, and_true] at e2
 simp [e2]
theorem ok_l2Run : Kn.ok Try.prog (kof [(151, q_l2Want), (152, q_l2Step)]) := kof_cons k_l2Want (kof_cons k_l2Step ((kof_nil _)))
theorem l2Run_ac (i : Int) (o : Int) (l : List I4) (ins : List (List Int)) (fuel : Int) (hc1 : progOk i o l = true) (hc2 : IW i ins) (hc3 : 0 ≤ fuel) (hc4 : fuel ≤ 3000) : AC Try.prog 81 [.agg [.int .i64 i, .int .i64 o, .row false 4 (l.map insv)], .row false 1 (ins.map ivL), .int .i64 fuel] (.tup [.row true 1 ((goP l ins fuel.toNat (ps0 i o)).1.outs.map ovL), .row true 1 ((goP l ins fuel.toNat (ps0 i o)).1.used.map iv), .int .i64 (goP l ins fuel.toNat (ps0 i o)).2.1, .int .i64 (goP l ins fuel.toNat (ps0 i o)).2.2]) := by
 have e_l2Want := e_l2Want
 have e_l2Step := e_l2Step
 have hpo := hc1
 simp only [progOk, inR, Bool.and_eq_true, decide_eq_true_eq] at hpo
 obtain ⟨⟨⟨hi0, ho0⟩, hl0⟩, _⟩ := hpo
 have hl24 : l.length ≤ 24 := by omega
 have hivl := ivL_eq
 have hpov := pureLL_ovL
 have hpiv := pureLL_ivL
 have hil := hc2.il
 generalize hR : goP l ins fuel.toNat (ps0 i o) = R
 have hb1 : i ≤ 4611686018427387904 := by omega
 have hb2 : 8 * i ≤ 140737488355328 := by omega
 refine AC.of tab_ok Try.func81 rfl (Nat.le_of_ble_eq_true rfl) fun w0 S0 => ?_
 change G _ _ ⟨[(0, .agg [.int .i64 i, .int .i64 o, .row false 4 (l.map insv)]), (1, .row false 1 (ins.map ivL)), (2, .int .i64 fuel)], [], 120⟩
 apply G.seq
 refine G.rg tab_ok ok_l2Run (hk := ?_)
 apply G.seq
 refine G.rg tab_ok ok_l2Run (hk := ?_)
 apply G.seq
 refine G.rg tab_ok ok_l2Run (hk := ?_)
 apply G.seq
 apply G.seq
 refine G.rg tab_ok ok_l2Run (hk := ?_)
 apply G.block
 refine G.nm [1, 2, 3, 10, 11, 12] (h := ?_)
 refine G.loopX (fun j : Nat => ⟨[(1, .row false 1 (ins.map ivL)), (2, .int .i64 fuel), (3, .ptr 0 0 0), (10, .ptr 1 0 0), (11, .sl 2 0 (nilsL j).length), (12, .int .i64 j)], [some (3, [[.int .i64 i, .int .i64 o, .row false 4 (l.map insv)]]), some (2, [[.int .i64 0, .sl 3 0 4]]), some (1, (nilsL j).map ovL), some (1, [[.int .i64 0], [.int .i64 0], [.int .i64 0], [.int .i64 0]])], 120⟩) (fun j => j ≤ o.toNat) (fun j => o.toNat - j) (0) (Nat.zero_le _) (by simp [nilsL]) ?_
 intro j hj J hJ
 have hw : IntKind.i64.wrap ((j : Int) + 1) = (j : Int) + 1 := wrap64 (by omega) (by omega)
 have hnl : (nilsL j).length ≤ 3 := by rw [nilsL_len]; omega
 have hbo1 : (((nilsL j).length + 1 : Nat) : Int) ≤ 4611686018427387904 := by omega
 have hbo2 : ((nilsL j).length + 1) * 24 ≤ 70368744177664 := by omega
 apply G.seq
 apply G.seq
 refine G.rg tab_ok ok_l2Run (hk := ?_)
 refine G.iff (h1 := fun h1 => ?_) (h2 := fun h1 => ?_)
 ·try simp only [zqz] at h1
  apply G.skip
  apply G.seq
  apply G.block
  refine G.rg tab_ok ok_l2Run (hk := ?_)
  refine G.lastO 6 4 (r := []) rfl rfl (by decide) rfl ?_
  apply G.blk
  refine G.rg tab_ok ok_l2Run (hk := ?_)
  refine G.nm [1, 2, 3, 10, 11, 12] (h := ?_)
  have hsn : nilsL j ++ [[]] = nilsL (j + 1) := by simp [nilsL, List.replicate_succ']
  have hsl : (nilsL j).length + 1 = (nilsL (j + 1)).length := by rw [nilsL_len, nilsL_len]
  exact G.upto (hJ (j + 1) (by omega) (by omega)) (by rw [hsn, hsl]; simp)
 ·try simp only [zqz] at h1
  refine G.exit rfl ?_
  apply G.seq
  refine G.rg tab_ok ok_l2Run (hk := ?_)
  apply G.block
  obtain rfl : j = o.toNat := by omega
  have hff : ((fuel.toNat : Nat) : Int) = fuel := by omega
  refine G.nm [1, 2, 3, 10, 11, 13] (h := ?_)
  refine G.loopX (fun x : PS × Nat => ⟨[(1, .row false 1 (ins.map ivL)), (2, .int .i64 (x.2 : Nat)), (3, .ptr 0 0 0), (10, .ptr 1 0 0), (11, .sl 2 0 x.1.outs.length), (13, .sl 3 0 x.1.used.length)], [some (3, [[.int .i64 i, .int .i64 o, .row false 4 (l.map insv)]]), some (2, [[.int .i64 x.1.pc, .sl 4 0 x.1.rs.length]]), some (1, x.1.outs.map ovL), some (1, x.1.used.map iv), some (1, x.1.rs.map iv)], 120⟩) (fun x => PW i o l ins x.1 ∧ goP l ins x.2 x.1 = R ∧ x.2 ≤ 3000) (fun x => x.2) ((ps0 i o, fuel.toNat)) (⟨PW.init hc1 hc2, hR, by simp only; omega⟩) (by simp [ps0, nilsL, iv, hff]) ?_
  intro x hx J2 hJ2
  obtain ⟨s, n⟩ := x
  simp only at hx ⊢
  obtain ⟨hw, hg, hn⟩ := hx
  obtain ⟨hpc0, hpc1⟩ := hw.pc0
  have hul := hw.ul
  have hol := hw.ol
  obtain ⟨p, hp⟩ : ∃ p, (wantK l s.pc).2 = p := ⟨_, rfl⟩
  have hfou : ∀ x : List (List Int), List.take x.length (List.map ovL x) = List.map ovL x := fun x => List.take_of_length_le (by simp)
  have hcase : (wantK l s.pc).1 = 0 ∨ (wantK l s.pc).1 = 1 ∨ ((wantK l s.pc).1 = 2 ∧ s.used.getD p.toNat default = ((ins.getD p.toNat default).length : Int)) ∨ ((wantK l s.pc).1 = 2 ∧ ¬ s.used.getD p.toNat default = ((ins.getD p.toNat default).length : Int)) ∨
    ((wantK l s.pc).1 = 3 ∧ (s.outs.getD p.toNat default).length = 400) ∨ ((wantK l s.pc).1 = 3 ∧ ¬ (s.outs.getD p.toNat default).length = 400) := by
   rcases wantK_cases l s.pc with h | h | h | h
   ·exact .inl h
   ·exact .inr (.inl h)
   ·by_cases e : s.used.getD p.toNat default = ((ins.getD p.toNat default).length : Int)
    ·exact .inr (.inr (.inl ⟨h, e⟩))
    ·exact .inr (.inr (.inr (.inl ⟨h, e⟩)))
   ·by_cases e : (s.outs.getD p.toNat default).length = 400
    ·exact .inr (.inr (.inr (.inr (.inl ⟨h, e⟩))))
    ·exact .inr (.inr (.inr (.inr (.inr ⟨h, e⟩))))
  rcases hcase with c0 | c0 | ⟨c0, c1⟩ | ⟨c0, c1⟩ | ⟨c0, c1⟩ | ⟨c0, c1⟩
  ·skip
   have hst : stopP l ins s = true := by simp [stopP, wP, c0]
   apply G.block
   apply G.seq
   refine G.rg tab_ok ok_l2Run (hk := ?_)
   apply G.seq
   refine G.rg tab_ok ok_l2Run (hk := ?_)
   apply G.seq
   apply G.seq
   refine G.rg tab_ok ok_l2Run (hk := ?_)
   apply G.block
   apply G.seq
   refine G.rg tab_ok ok_l2Run (hk := ?_)
   refine G.iffT (h1 := ?_)
   apply G.seq
   refine G.rg tab_ok ok_l2Run (hk := ?_)
   refine G.fin tab_ok (hr := ?_)
   simp only [hfou, oneOrTup]
   rw [← hg, goP_stop hst]
   simp only [wP, c0, hp]
  ·skip
   have hst : stopP l ins s = false := by simp [stopP, wP, c0]
   have hn0 : ¬ (wP l s).1 = 0 := by show ¬ (wantK l s.pc).1 = 0; rw [c0]; decide
   obtain ⟨hreg, hop⟩ := hw.reg hc1 hn0
   have hlt := hw.lt hn0
   have hreg2 : RegOk (l.getD s.pc.toNat default) s.rs := hreg
   apply G.block
   apply G.seq
   refine G.rg tab_ok ok_l2Run (hk := ?_)
   apply G.seq
   refine G.rg tab_ok ok_l2Run (hk := ?_)
   apply G.seq
   apply G.seq
   refine G.rg tab_ok ok_l2Run (hk := ?_)
   apply G.block
   apply G.seq
   refine G.rg tab_ok ok_l2Run (hk := ?_)
   refine G.iffF (h2 := ?_)
   apply G.seq
   refine G.rg tab_ok ok_l2Run (hk := ?_)
   refine G.iffF (h2 := ?_)
   apply G.seq
   refine G.rg tab_ok ok_l2Run (hk := ?_)
   refine G.iffF (h2 := ?_)
   apply G.skip
   apply G.blk
   apply G.seq
   apply G.seq
   refine G.rg tab_ok ok_l2Run (hk := ?_)
   refine G.fg [1, 2, 3, 10, 11, 13, 14, 15, 16, 87] (hk := ?_)
   refine G.iff (h1 := fun h6 => ?_) (h2 := fun h6 => ?_)
   ·try simp only [zqz] at h6
    apply G.seq
    refine G.rg tab_ok ok_l2Run (hk := ?_)
    refine G.fin tab_ok (hr := ?_)
    obtain rfl : n = 0 := by omega
    simp only [hfou, oneOrTup]
    rw [← hg, goP_zero hst]
   ·try simp only [zqz] at h6
    apply G.skip
    apply G.seq
    have hn0 : n ≠ 0 := by omega
    have hn1 : ((n - 1 : Nat) : Int) = (n : Int) - 1 := by omega
    have hwn : IntKind.i64.wrap ((n : Int) - 1) = (n : Int) - 1 := wrap64 (by omega) (by omega)
    refine G.rg tab_ok ok_l2Run (hk := ?_)
    apply G.seq
    refine G.rg tab_ok ok_l2Run (hk := ?_)
    apply G.seq
    refine G.rg tab_ok ok_l2Run (hk := ?_)
    apply G.seq
    apply G.seq
    refine G.rg tab_ok ok_l2Run (hk := ?_)
    refine G.iffF (h2 := ?_)
    apply G.skip
    apply G.seq
    refine G.rg tab_ok ok_l2Run (hk := ?_)
    refine G.iffF (h2 := ?_)
    apply G.skip
    apply G.blk
    refine G.nm [1, 2, 3, 10, 11, 13] (h := ?_)
    exact G.upto (hJ2 (nextP l ins s, n - 1) ⟨hw.next hc1 hc2 hst, goP_pred hst (by omega) hg, by simp only; omega⟩ (by simp only; omega)) (by simp [nextP, wP, xP, tokP, c0, hp, hn1])
  ·skip
   have hrd := hw.read hc1 (show (wP l s).1 = 2 from c0)
   simp only [wP, hp] at hrd
   have hq0 : 0 ≤ p := hrd.1
   have hq1 : p < (s.used.length : Int) := by omega
   have hq2 : p.toNat < s.used.length := by omega
   have hq3 : p < (ins.length : Int) := by omega
   have hq4 : p.toNat < ins.length := by omega
   have hub := hw.ub p.toNat hq2
   have hbt : (s.used.getD p.toNat default == (((ins.getD p.toNat default).length : Nat) : Int)) = true := by rw [beq_iff_eq]; exact c1
   have hst : stopP l ins s = true := by rw [stopP_two c0 hp]; exact hbt
   apply G.block
   apply G.seq
   refine G.rg tab_ok ok_l2Run (hk := ?_)
   apply G.seq
   refine G.rg tab_ok ok_l2Run (hk := ?_)
   apply G.seq
   apply G.seq
   refine G.rg tab_ok ok_l2Run (hk := ?_)
   apply G.block
   apply G.seq
   refine G.rg tab_ok ok_l2Run (hk := ?_)
   refine G.iffF (h2 := ?_)
   apply G.seq
   refine G.rg tab_ok ok_l2Run (hk := ?_)
   refine G.iffT (h1 := ?_)
   apply G.seq
   apply G.seq
   refine G.dr mixed tab_ok ok_l2Run [0, 1, 2, 3, 4, 5, 6, 7, 8, 9] (hk := ?_)
   refine G.iffT (h1 := ?_)
   apply G.seq
   refine G.rg tab_ok ok_l2Run (hk := ?_)
   refine G.fin tab_ok (hr := ?_)
   simp only [hfou, oneOrTup]
   rw [← hg, goP_stop hst]
   simp only [wP, c0, hp]
  ·skip
   have hrd := hw.read hc1 (show (wP l s).1 = 2 from c0)
   simp only [wP, hp] at hrd
   have hq0 : 0 ≤ p := hrd.1
   have hq1 : p < (s.used.length : Int) := by omega
   have hq2 : p.toNat < s.used.length := by omega
   have hq3 : p < (ins.length : Int) := by omega
   have hq4 : p.toNat < ins.length := by omega
   have hub := hw.ub p.toNat hq2
   have hbt : (s.used.getD p.toNat default == (((ins.getD p.toNat default).length : Nat) : Int)) = false := by rw [beq_eq_false_iff_ne]; exact c1
   have hst : stopP l ins s = false := by rw [stopP_two c0 hp]; exact hbt
   have hn0 : ¬ (wP l s).1 = 0 := by show ¬ (wantK l s.pc).1 = 0; rw [c0]; decide
   obtain ⟨hreg, hop⟩ := hw.reg hc1 hn0
   have hlt := hw.lt hn0
   have hreg2 : RegOk (l.getD s.pc.toNat default) s.rs := hreg
   have hu0 : 0 ≤ s.used.getD p.toNat default := hub.1
   have hu1 : s.used.getD p.toNat default < ((ins.getD p.toNat default).length : Int) := by have := hub.2; omega
   have hu2 : (s.used.getD p.toNat default).toNat < (ins.getD p.toNat default).length := by omega
   have hsub : (ins.getD p.toNat default).length ≤ 400 := strLen (hc2.it _ (getD_mem hq4))
   have hset : ∀ v : Int, (List.map iv s.used).set p.toNat [.int .i64 v] = List.map iv (s.used.set p.toNat v) := fun v => by rw [List.map_set]; rfl
   have hugt : (List.map iv s.used)[p.toNat]? = some [.int .i64 (s.used.getD p.toNat default)] := by simp [hq2, iv]
   have hwu : IntKind.i64.wrap (s.used.getD p.toNat default + 1) = s.used.getD p.toNat default + 1 := wrap64 (by omega) (by omega)
   apply G.block
   apply G.seq
   refine G.rg tab_ok ok_l2Run (hk := ?_)
   apply G.seq
   refine G.rg tab_ok ok_l2Run (hk := ?_)
   apply G.seq
   apply G.seq
   refine G.rg tab_ok ok_l2Run (hk := ?_)
   apply G.block
   apply G.seq
   refine G.rg tab_ok ok_l2Run (hk := ?_)
   refine G.iffF (h2 := ?_)
   apply G.seq
   refine G.rg tab_ok ok_l2Run (hk := ?_)
   refine G.iffT (h1 := ?_)
   apply G.seq
   apply G.seq
   refine G.dr mixed tab_ok ok_l2Run [0, 1, 2, 3, 4, 5, 6, 7, 8, 9] (hk := ?_)
   refine G.iffF (h2 := ?_)
   apply G.skip
   refine G.dr mixed tab_ok ok_l2Run [0, 1, 2, 3, 4, 5, 6, 7, 8, 9, 10] (hk := ?_)
   apply G.blk
   apply G.seq
   apply G.seq
   refine G.fg [1, 2, 3, 10, 11, 13, 14, 15, 16] (hk := ?_)
   refine G.rg tab_ok ok_l2Run (hk := ?_)
   refine G.iff (h1 := fun h15 => ?_) (h2 := fun h15 => ?_)
   ·try simp only [zqz] at h15
    apply G.seq
    refine G.rg tab_ok ok_l2Run (hk := ?_)
    refine G.fin tab_ok (hr := ?_)
    obtain rfl : n = 0 := by omega
    simp only [hfou, oneOrTup]
    rw [← hg, goP_zero hst]
   ·try simp only [zqz] at h15
    apply G.skip
    apply G.seq
    have hn0 : n ≠ 0 := by omega
    have hn1 : ((n - 1 : Nat) : Int) = (n : Int) - 1 := by omega
    have hwn : IntKind.i64.wrap ((n : Int) - 1) = (n : Int) - 1 := wrap64 (by omega) (by omega)
    refine G.rg tab_ok ok_l2Run (hk := ?_)
    apply G.seq
    refine G.rg tab_ok ok_l2Run (hk := ?_)
    apply G.seq
    refine G.rg tab_ok ok_l2Run (hk := ?_)
    apply G.seq
    apply G.seq
    refine G.rg tab_ok ok_l2Run (hk := ?_)
    refine G.iffT (h1 := ?_)
    refine G.rg tab_ok ok_l2Run (hk := ?_)
    apply G.seq
    refine G.rg tab_ok ok_l2Run (hk := ?_)
    refine G.iffF (h2 := ?_)
    apply G.skip
    apply G.blk
    refine G.nm [1, 2, 3, 10, 11, 13] (h := ?_)
    exact G.upto (hJ2 (nextP l ins s, n - 1) ⟨hw.next hc1 hc2 hst, goP_pred hst (by omega) hg, by simp only; omega⟩ (by simp only; omega)) (by simp [nextP, wP, xP, tokP, c0, hp, hn1])
  ·skip
   have hrd := hw.write hc1 (show (wP l s).1 = 3 from c0)
   simp only [wP, hp] at hrd
   have hq0 : 0 ≤ p := hrd.1
   have hq1 : p < (s.outs.length : Int) := by omega
   have hq2 : p.toNat < s.outs.length := by omega
   have hob := hw.ob _ (getD_mem hq2)
   have hget : ∀ a : List A, ((s.outs.map ovL).set p.toNat a)[p.toNat]? = some a := fun a => List.getElem?_set_self (by simpa using hq2)
   have hrdc : ∀ a : A, rdCells ((s.outs.map ovL).set p.toNat [a]) p.toNat 0 1 = some [a] := fun a => by simp [rdCells, hget]
   have hss : ∀ a b : List A, ((s.outs.map ovL).set p.toNat a).set p.toNat b = (s.outs.map ovL).set p.toNat b := fun a b => List.set_set ..
   have hsame : s.outs.set p.toNat (s.outs.getD p.toNat default) = s.outs := by
    rw [List.getD_eq_getElem?_getD, List.getElem?_eq_getElem hq2]
    exact List.set_getElem_self hq2
   have hbt : ((((s.outs.getD p.toNat default).length : Nat) : Int) == 400) = true := by rw [beq_iff_eq]; omega
   have hst : stopP l ins s = true := by rw [stopP_three c0 hp]; exact hbt
   apply G.block
   apply G.seq
   refine G.rg tab_ok ok_l2Run (hk := ?_)
   apply G.seq
   refine G.rg tab_ok ok_l2Run (hk := ?_)
   apply G.seq
   apply G.seq
   refine G.rg tab_ok ok_l2Run (hk := ?_)
   apply G.block
   apply G.seq
   refine G.rg tab_ok ok_l2Run (hk := ?_)
   refine G.iffF (h2 := ?_)
   apply G.seq
   refine G.rg tab_ok ok_l2Run (hk := ?_)
   refine G.iffF (h2 := ?_)
   apply G.seq
   refine G.rg tab_ok ok_l2Run (hk := ?_)
   refine G.iffT (h1 := ?_)
   apply G.seq
   refine G.focusO 2 p.toNat rfl hq2 ?_
   refine G.rg tab_ok ok_l2Run (hk := ?_)
   refine G.iffT (h1 := ?_)
   apply G.seq
   refine G.unfocusO 2 p.toNat 5 rfl rfl (by decide) c1.symm hq2 ?_
   rw [hsame]
   refine G.rg tab_ok ok_l2Run (hk := ?_)
   refine G.fin tab_ok (hr := ?_)
   simp only [hfou, oneOrTup]
   rw [← hg, goP_stop hst]
   simp only [wP, c0, hp]
  ·skip
   have hrd := hw.write hc1 (show (wP l s).1 = 3 from c0)
   simp only [wP, hp] at hrd
   have hq0 : 0 ≤ p := hrd.1
   have hq1 : p < (s.outs.length : Int) := by omega
   have hq2 : p.toNat < s.outs.length := by omega
   have hob := hw.ob _ (getD_mem hq2)
   have hget : ∀ a : List A, ((s.outs.map ovL).set p.toNat a)[p.toNat]? = some a := fun a => List.getElem?_set_self (by simpa using hq2)
   have hrdc : ∀ a : A, rdCells ((s.outs.map ovL).set p.toNat [a]) p.toNat 0 1 = some [a] := fun a => by simp [rdCells, hget]
   have hss : ∀ a b : List A, ((s.outs.map ovL).set p.toNat a).set p.toNat b = (s.outs.map ovL).set p.toNat b := fun a b => List.set_set ..
   have hsame : s.outs.set p.toNat (s.outs.getD p.toNat default) = s.outs := by
    rw [List.getD_eq_getElem?_getD, List.getElem?_eq_getElem hq2]
    exact List.set_getElem_self hq2
   have hbt : ((((s.outs.getD p.toNat default).length : Nat) : Int) == 400) = false := by rw [beq_eq_false_iff_ne]; omega
   have hst : stopP l ins s = false := by rw [stopP_three c0 hp]; exact hbt
   have hn0 : ¬ (wP l s).1 = 0 := by show ¬ (wantK l s.pc).1 = 0; rw [c0]; decide
   obtain ⟨hreg, hop⟩ := hw.reg hc1 hn0
   have hlt := hw.lt hn0
   have hreg2 : RegOk (l.getD s.pc.toNat default) s.rs := hreg
   have happ : ∀ v : Int, List.map iv (s.outs.getD p.toNat default) ++ [[.int .i64 v]] = List.map iv (s.outs.getD p.toNat default ++ [v]) := fun v => by simp [iv]
   have hbo1 : (((s.outs.getD p.toNat default).length + 1 : Nat) : Int) ≤ 4611686018427387904 := by omega
   have hbo2 : ((s.outs.getD p.toNat default).length + 1) * 8 ≤ 70368744177664 := by omega
   apply G.block
   apply G.seq
   refine G.rg tab_ok ok_l2Run (hk := ?_)
   apply G.seq
   refine G.rg tab_ok ok_l2Run (hk := ?_)
   apply G.seq
   apply G.seq
   refine G.rg tab_ok ok_l2Run (hk := ?_)
   apply G.block
   apply G.seq
   refine G.rg tab_ok ok_l2Run (hk := ?_)
   refine G.iffF (h2 := ?_)
   apply G.seq
   refine G.rg tab_ok ok_l2Run (hk := ?_)
   refine G.iffF (h2 := ?_)
   apply G.seq
   refine G.rg tab_ok ok_l2Run (hk := ?_)
   refine G.iffT (h1 := ?_)
   apply G.seq
   refine G.focusO 2 p.toNat rfl hq2 ?_
   refine G.rg tab_ok ok_l2Run (hk := ?_)
   refine G.iffF (h2 := ?_)
   apply G.skip
   apply G.blk
   apply G.seq
   apply G.seq
   refine G.rg tab_ok ok_l2Run (hk := ?_)
   refine G.fg [1, 2, 3, 10, 11, 13, 14, 15, 16, 87] (hk := ?_)
   refine G.iff (h1 := fun h26 => ?_) (h2 := fun h26 => ?_)
   ·try simp only [zqz] at h26
    apply G.seq
    refine G.unfocusO 2 p.toNat 5 rfl rfl (by decide) rfl hq2 ?_
    rw [hsame]
    refine G.rg tab_ok ok_l2Run (hk := ?_)
    refine G.fin tab_ok (hr := ?_)
    obtain rfl : n = 0 := by omega
    simp only [hfou, oneOrTup]
    rw [← hg, goP_zero hst]
   ·try simp only [zqz] at h26
    apply G.skip
    apply G.seq
    have hn0 : n ≠ 0 := by omega
    have hn1 : ((n - 1 : Nat) : Int) = (n : Int) - 1 := by omega
    have hwn : IntKind.i64.wrap ((n : Int) - 1) = (n : Int) - 1 := wrap64 (by omega) (by omega)
    refine G.rg tab_ok ok_l2Run (hk := ?_)
    apply G.seq
    refine G.rg tab_ok ok_l2Run (hk := ?_)
    apply G.seq
    refine G.rg tab_ok ok_l2Run (hk := ?_)
    apply G.seq
    apply G.seq
    refine G.rg tab_ok ok_l2Run (hk := ?_)
    refine G.iffF (h2 := ?_)
    apply G.skip
    apply G.seq
    refine G.rg tab_ok ok_l2Run (hk := ?_)
    refine G.iffT (h1 := ?_)
    refine G.rg tab_ok ok_l2Run (hk := ?_)
    refine G.unfocusO 2 p.toNat 9 (r := s.outs.getD p.toNat default ++ [stepW (l.getD s.pc.toNat default) s.rs]) rfl rfl (by decide) (by simp) hq2 ?_
    apply G.blk
    refine G.nm [1, 2, 3, 10, 11, 13] (h := ?_)
    exact G.upto (hJ2 (nextP l ins s, n - 1) ⟨hw.next hc1 hc2 hst, goP_pred hst (by omega) hg, by simp only; omega⟩ (by simp only; omega)) (by simp [nextP, wP, xP, tokP, c0, hp, hn1])
def r_l2Run (xs0 : List A) (rr : A) : Prop := ∃ (i : Int) (o : Int) (l : List I4) (ins : List (List Int)) (fuel : Int), (progOk i o l = true) ∧ (IW i ins) ∧ (0 ≤ fuel) ∧ (fuel ≤ 3000) ∧ xs0 = [.agg [.int .i64 i, .int .i64 o, .row false 4 (l.map insv)], .row false 1 (ins.map ivL), .int .i64 fuel] ∧ rr = .tup [.row true 1 ((goP l ins fuel.toNat (ps0 i o)).1.outs.map ovL), .row true 1 ((goP l ins fuel.toNat (ps0 i o)).1.used.map iv), .int .i64 (goP l ins fuel.toNat (ps0 i o)).2.1, .int .i64 (goP l ins fuel.toNat (ps0 i o)).2.2]
noncomputable def q_l2Run : List A → Option A := kgr r_l2Run
theorem k_l2Run : KOk Try.prog (81, q_l2Run) := kgr_ok (enters_of Try.func81 rfl rfl) (by rintro xs0 rr ⟨i, o, l, ins, fuel, hc1, hc2, hc3, hc4, rfl, rfl⟩; exact l2Run_ac i o l ins fuel hc1 hc2 hc3 hc4)
theorem e_l2Run : ∀ (i : Int) (o : Int) (l : List I4) (ins : List (List Int)) (fuel : Int), (progOk i o l = true) → (IW i ins) → (0 ≤ fuel) → (fuel ≤ 3000) → q_l2Run [.agg [.int .i64 i, .int .i64 o, .row false 4 (l.map insv)], .row false 1 (ins.map ivL), .int .i64 fuel] = some (.tup [.row true 1 ((goP l ins fuel.toNat (ps0 i o)).1.outs.map ovL), .row true 1 ((goP l ins fuel.toNat (ps0 i o)).1.used.map iv), .int .i64 (goP l ins fuel.toNat (ps0 i o)).2.1, .int .i64 (goP l ins fuel.toNat (ps0 i o)).2.2]) := by
 intro i o l ins fuel hc1 hc2 hc3 hc4
 refine kgr_eq (fun xs0 rr r2 h h2 => ?_) ⟨i, o, l, ins, fuel, hc1, hc2, hc3, hc4, rfl, rfl⟩
 obtain ⟨i1, o1, l1, ins1, fuel1, _, _, _, _, e1, rfl⟩ := h; obtain ⟨i2, o2, l2, ins2, fuel2, _, _, _, _, e2, rfl⟩ := h2
 rw [e1] at e2
 simp only [List.cons.injEq, A.int.injEq, A.agg.injEq, A.row.injEq, insv_inj, ivL_inj, true_and, and_true] at e2
 obtain ⟨⟨e3, e4, e5⟩, e6, e7⟩ := e2
 subst e3 e4 e5 e6 e7
 rfl
theorem ok_implAlone : Kn.ok Try.prog (kof [(100, q_implWant), (32, q_implNewActor)]) := kof_cons k_implWant (kof_cons k_implNewActor ((kof_nil _)))
theorem en_implStep : Enters Try.prog 102 := enters_of Try.func102 rfl rfl
theorem implAlone_ac (i : Int) (o : Int) (l : List I4) (ins : List (List Int)) (fuel : Int) (hc1 : progOk i o l = true) (hc2 : IW i ins) (hc3 : 0 ≤ fuel) (hc4 : fuel ≤ 3000) : AC Try.prog 98 [.agg [.int .i64 i, .int .i64 o, .row false 4 (l.map insv)], .row false 1 (ins.map ivL), .int .i64 fuel] (.tup [.row true 1 ((goP l ins fuel.toNat (ps0 i o)).1.outs.map ovL), .row true 1 ((goP l ins fuel.toNat (ps0 i o)).1.used.map iv), .int .i64 (goP l ins fuel.toNat (ps0 i o)).2.1, .int .i64 (goP l ins fuel.toNat (ps0 i o)).2.2]) := by
 have e_implWant := e_implWant
 have e_implNewActor := e_implNewActor
 have hpo := hc1
 simp only [progOk, inR, Bool.and_eq_true, decide_eq_true_eq] at hpo
 obtain ⟨⟨⟨hi0, ho0⟩, hl0⟩, _⟩ := hpo
 have hl24 : l.length ≤ 24 := by omega
 have hivl := ivL_eq
 have hpov := pureLL_ovL
 have hpiv := pureLL_ivL
 have hil := hc2.il
 generalize hR : goP l ins fuel.toNat (ps0 i o) = R
 have hb1 : i ≤ 4611686018427387904 := by omega
 have hb2 : 8 * i ≤ 140737488355328 := by omega
 have hb3 : o ≤ 4611686018427387904 := by omega
 have hb4 : 24 * o ≤ 140737488355328 := by omega
 have hlb : l.length < 4398046511104 := by omega
 have hr0 : regs0 i o l = [0, 0, 0, 0] := by unfold regs0; rw [hc1]; rfl
 have hft : (false == true) = false := rfl
 have htf : (true == false) = false := rfl
 refine AC.of tab_ok Try.func98 rfl (Nat.le_of_ble_eq_true rfl) fun w0 S0 => ?_
 change G _ _ ⟨[(0, .agg [.int .i64 i, .int .i64 o, .row false 4 (l.map insv)]), (1, .row false 1 (ins.map ivL)), (2, .int .i64 fuel)], [], 106⟩
 apply G.seq
 refine G.rg tab_ok ok_implAlone (hk := ?_)
 apply G.seq
 apply G.joinR
 ·intro hk
  refine G.drawL (c := ⟨Try.prog, tab, _, _, _, _, _⟩) mixed tab_ok ok_implAlone 12 ?_ rfl
  refine AnyL.gg (n := 9) 3 [0, 2, 5] (h := ?_)
  refine AnyL.tl (n := 8) 3 20 (h := ?_)
  refine AnyL.tl (n := 7) 6 23 (h := ?_)
  refine AnyL.fk4w (n := 6) 1 4 7 8 (k1 := ?_) (k2 := ?_) (k3 := ?_) (k4 := ?_)
  ·skip
   refine AnyL.fk3w (n := 5) 4 7 8 (k1 := ?_) (k2 := ?_) (k3 := ?_)
   ·skip
    refine AnyL.fk2 (n := 4) 7 8 (k1 := ?_) (k2 := ?_)
    ·skip
     refine AnyL.gg (n := 0) 4 [8, 9, 10, 11] (h := ?_)
     exact AnyL.ln [1, 2, 3, 10, 11, 12, 34, 35, 36, 37, 38, 39, 40, 41, 42, 43, 44, 45, 46, 47, 48, 49, 50, 51, 52, 53, 54, 55, 56, 57, 58, 59, 60, 61, 62, 75, 76, 77, 78, 79, 80, 81, 82, 83, 84] (h := hk)
    ·skip
     refine AnyL.fk2 (n := 3) 7 9 (k1 := ?_) (k2 := ?_)
     ·skip
      refine AnyL.gg (n := 0) 3 [9, 10, 11] (h := ?_)
      exact AnyL.ln [1, 2, 3, 10, 11, 12, 34, 35, 36, 37, 38, 39, 40, 41, 42, 43, 44, 45, 46, 47, 48, 49, 50, 51, 52, 53, 54, 55, 56, 57, 58, 59, 60, 61, 62, 75, 76, 77, 78, 79, 80, 81, 82, 83, 84] (h := hk)
     ·skip
      refine AnyL.gg (n := 0) 3 [10, 7, 11] (h := ?_)
      exact AnyL.ln [1, 2, 3, 10, 11, 12, 34, 35, 36, 37, 38, 39, 40, 41, 42, 43, 44, 45, 46, 47, 48, 49, 50, 51, 52, 53, 54, 55, 56, 57, 58, 59, 60, 61, 62, 75, 76, 77, 78, 79, 80, 81, 82, 83, 84] (h := hk)
   ·skip
    refine AnyL.fk2 (n := 4) 4 8 (k1 := ?_) (k2 := ?_)
    ·skip
     refine AnyL.gg (n := 0) 4 [8, 9, 10, 11] (h := ?_)
     exact AnyL.ln [1, 2, 3, 10, 11, 12, 34, 35, 36, 37, 38, 39, 40, 41, 42, 43, 44, 45, 46, 47, 48, 49, 50, 51, 52, 53, 54, 55, 56, 57, 58, 59, 60, 61, 62, 75, 76, 77, 78, 79, 80, 81, 82, 83, 84] (h := hk)
    ·skip
     refine AnyL.fk2 (n := 3) 4 9 (k1 := ?_) (k2 := ?_)
     ·skip
      refine AnyL.gg (n := 0) 3 [9, 10, 11] (h := ?_)
      exact AnyL.ln [1, 2, 3, 10, 11, 12, 34, 35, 36, 37, 38, 39, 40, 41, 42, 43, 44, 45, 46, 47, 48, 49, 50, 51, 52, 53, 54, 55, 56, 57, 58, 59, 60, 61, 62, 75, 76, 77, 78, 79, 80, 81, 82, 83, 84] (h := hk)
     ·skip
      refine AnyL.gg (n := 0) 3 [4, 10, 11] (h := ?_)
      exact AnyL.ln [1, 2, 3, 10, 11, 12, 34, 35, 36, 37, 38, 39, 40, 41, 42, 43, 44, 45, 46, 47, 48, 49, 50, 51, 52, 53, 54, 55, 56, 57, 58, 59, 60, 61, 62, 75, 76, 77, 78, 79, 80, 81, 82, 83, 84] (h := hk)
   ·skip
    refine AnyL.fk3w (n := 4) 4 7 9 (k1 := ?_) (k2 := ?_) (k3 := ?_)
    ·skip
     refine AnyL.fk2 (n := 3) 7 9 (k1 := ?_) (k2 := ?_)
     ·skip
      refine AnyL.gg (n := 0) 3 [9, 10, 11] (h := ?_)
      exact AnyL.ln [1, 2, 3, 10, 11, 12, 34, 35, 36, 37, 38, 39, 40, 41, 42, 43, 44, 45, 46, 47, 48, 49, 50, 51, 52, 53, 54, 55, 56, 57, 58, 59, 60, 61, 62, 75, 76, 77, 78, 79, 80, 81, 82, 83, 84] (h := hk)
     ·skip
      refine AnyL.gg (n := 0) 3 [10, 7, 11] (h := ?_)
      exact AnyL.ln [1, 2, 3, 10, 11, 12, 34, 35, 36, 37, 38, 39, 40, 41, 42, 43, 44, 45, 46, 47, 48, 49, 50, 51, 52, 53, 54, 55, 56, 57, 58, 59, 60, 61, 62, 75, 76, 77, 78, 79, 80, 81, 82, 83, 84] (h := hk)
    ·skip
     refine AnyL.fk2 (n := 3) 4 9 (k1 := ?_) (k2 := ?_)
     ·skip
      refine AnyL.gg (n := 0) 3 [9, 10, 11] (h := ?_)
      exact AnyL.ln [1, 2, 3, 10, 11, 12, 34, 35, 36, 37, 38, 39, 40, 41, 42, 43, 44, 45, 46, 47, 48, 49, 50, 51, 52, 53, 54, 55, 56, 57, 58, 59, 60, 61, 62, 75, 76, 77, 78, 79, 80, 81, 82, 83, 84] (h := hk)
     ·skip
      refine AnyL.gg (n := 0) 3 [4, 10, 11] (h := ?_)
      exact AnyL.ln [1, 2, 3, 10, 11, 12, 34, 35, 36, 37, 38, 39, 40, 41, 42, 43, 44, 45, 46, 47, 48, 49, 50, 51, 52, 53, 54, 55, 56, 57, 58, 59, 60, 61, 62, 75, 76, 77, 78, 79, 80, 81, 82, 83, 84] (h := hk)
    ·skip
     refine AnyL.fk2 (n := 3) 4 7 (k1 := ?_) (k2 := ?_)
     ·skip
      refine AnyL.gg (n := 0) 3 [10, 7, 11] (h := ?_)
      exact AnyL.ln [1, 2, 3, 10, 11, 12, 34, 35, 36, 37, 38, 39, 40, 41, 42, 43, 44, 45, 46, 47, 48, 49, 50, 51, 52, 53, 54, 55, 56, 57, 58, 59, 60, 61, 62, 75, 76, 77, 78, 79, 80, 81, 82, 83, 84] (h := hk)
     ·skip
      refine AnyL.gg (n := 0) 3 [4, 10, 11] (h := ?_)
      exact AnyL.ln [1, 2, 3, 10, 11, 12, 34, 35, 36, 37, 38, 39, 40, 41, 42, 43, 44, 45, 46, 47, 48, 49, 50, 51, 52, 53, 54, 55, 56, 57, 58, 59, 60, 61, 62, 75, 76, 77, 78, 79, 80, 81, 82, 83, 84] (h := hk)
  ·skip
   refine AnyL.fk3w (n := 5) 1 7 8 (k1 := ?_) (k2 := ?_) (k3 := ?_)
   ·skip
    refine AnyL.fk2 (n := 4) 7 8 (k1 := ?_) (k2 := ?_)
    ·skip
     refine AnyL.gg (n := 0) 4 [8, 9, 10, 11] (h := ?_)
     exact AnyL.ln [1, 2, 3, 10, 11, 12, 34, 35, 36, 37, 38, 39, 40, 41, 42, 43, 44, 45, 46, 47, 48, 49, 50, 51, 52, 53, 54, 55, 56, 57, 58, 59, 60, 61, 62, 75, 76, 77, 78, 79, 80, 81, 82, 83, 84] (h := hk)
    ·skip
     refine AnyL.fk2 (n := 3) 7 9 (k1 := ?_) (k2 := ?_)
     ·skip
      refine AnyL.gg (n := 0) 3 [9, 10, 11] (h := ?_)
      exact AnyL.ln [1, 2, 3, 10, 11, 12, 34, 35, 36, 37, 38, 39, 40, 41, 42, 43, 44, 45, 46, 47, 48, 49, 50, 51, 52, 53, 54, 55, 56, 57, 58, 59, 60, 61, 62, 75, 76, 77, 78, 79, 80, 81, 82, 83, 84] (h := hk)
     ·skip
      refine AnyL.gg (n := 0) 3 [10, 7, 11] (h := ?_)
      exact AnyL.ln [1, 2, 3, 10, 11, 12, 34, 35, 36, 37, 38, 39, 40, 41, 42, 43, 44, 45, 46, 47, 48, 49, 50, 51, 52, 53, 54, 55, 56, 57, 58, 59, 60, 61, 62, 75, 76, 77, 78, 79, 80, 81, 82, 83, 84] (h := hk)
   ·skip
    refine AnyL.fk2 (n := 4) 1 8 (k1 := ?_) (k2 := ?_)
    ·skip
     refine AnyL.gg (n := 0) 4 [8, 9, 10, 11] (h := ?_)
     exact AnyL.ln [1, 2, 3, 10, 11, 12, 34, 35, 36, 37, 38, 39, 40, 41, 42, 43, 44, 45, 46, 47, 48, 49, 50, 51, 52, 53, 54, 55, 56, 57, 58, 59, 60, 61, 62, 75, 76, 77, 78, 79, 80, 81, 82, 83, 84] (h := hk)
    ·skip
     refine AnyL.gg (n := 0) 4 [1, 9, 10, 11] (h := ?_)
     exact AnyL.ln [1, 2, 3, 10, 11, 12, 34, 35, 36, 37, 38, 39, 40, 41, 42, 43, 44, 45, 46, 47, 48, 49, 50, 51, 52, 53, 54, 55, 56, 57, 58, 59, 60, 61, 62, 75, 76, 77, 78, 79, 80, 81, 82, 83, 84] (h := hk)
   ·skip
    refine AnyL.fk2 (n := 4) 1 7 (k1 := ?_) (k2 := ?_)
    ·skip
     refine AnyL.fk2 (n := 3) 7 9 (k1 := ?_) (k2 := ?_)
     ·skip
      refine AnyL.gg (n := 0) 3 [9, 10, 11] (h := ?_)
      exact AnyL.ln [1, 2, 3, 10, 11, 12, 34, 35, 36, 37, 38, 39, 40, 41, 42, 43, 44, 45, 46, 47, 48, 49, 50, 51, 52, 53, 54, 55, 56, 57, 58, 59, 60, 61, 62, 75, 76, 77, 78, 79, 80, 81, 82, 83, 84] (h := hk)
     ·skip
      refine AnyL.gg (n := 0) 3 [10, 7, 11] (h := ?_)
      exact AnyL.ln [1, 2, 3, 10, 11, 12, 34, 35, 36, 37, 38, 39, 40, 41, 42, 43, 44, 45, 46, 47, 48, 49, 50, 51, 52, 53, 54, 55, 56, 57, 58, 59, 60, 61, 62, 75, 76, 77, 78, 79, 80, 81, 82, 83, 84] (h := hk)
    ·skip
     refine AnyL.gg (n := 0) 4 [1, 9, 10, 11] (h := ?_)
     exact AnyL.ln [1, 2, 3, 10, 11, 12, 34, 35, 36, 37, 38, 39, 40, 41, 42, 43, 44, 45, 46, 47, 48, 49, 50, 51, 52, 53, 54, 55, 56, 57, 58, 59, 60, 61, 62, 75, 76, 77, 78, 79, 80, 81, 82, 83, 84] (h := hk)
  ·skip
   refine AnyL.fk3w (n := 5) 1 4 8 (k1 := ?_) (k2 := ?_) (k3 := ?_)
   ·skip
    refine AnyL.fk2 (n := 4) 4 8 (k1 := ?_) (k2 := ?_)
    ·skip
     refine AnyL.gg (n := 0) 4 [8, 9, 10, 11] (h := ?_)
     exact AnyL.ln [1, 2, 3, 10, 11, 12, 34, 35, 36, 37, 38, 39, 40, 41, 42, 43, 44, 45, 46, 47, 48, 49, 50, 51, 52, 53, 54, 55, 56, 57, 58, 59, 60, 61, 62, 75, 76, 77, 78, 79, 80, 81, 82, 83, 84] (h := hk)
    ·skip
     refine AnyL.fk2 (n := 3) 4 9 (k1 := ?_) (k2 := ?_)
     ·skip
      refine AnyL.gg (n := 0) 3 [9, 10, 11] (h := ?_)
      exact AnyL.ln [1, 2, 3, 10, 11, 12, 34, 35, 36, 37, 38, 39, 40, 41, 42, 43, 44, 45, 46, 47, 48, 49, 50, 51, 52, 53, 54, 55, 56, 57, 58, 59, 60, 61, 62, 75, 76, 77, 78, 79, 80, 81, 82, 83, 84] (h := hk)
     ·skip
      refine AnyL.gg (n := 0) 3 [4, 10, 11] (h := ?_)
      exact AnyL.ln [1, 2, 3, 10, 11, 12, 34, 35, 36, 37, 38, 39, 40, 41, 42, 43, 44, 45, 46, 47, 48, 49, 50, 51, 52, 53, 54, 55, 56, 57, 58, 59, 60, 61, 62, 75, 76, 77, 78, 79, 80, 81, 82, 83, 84] (h := hk)
   ·skip
    refine AnyL.fk2 (n := 4) 1 8 (k1 := ?_) (k2 := ?_)
    ·skip
     refine AnyL.gg (n := 0) 4 [8, 9, 10, 11] (h := ?_)
     exact AnyL.ln [1, 2, 3, 10, 11, 12, 34, 35, 36, 37, 38, 39, 40, 41, 42, 43, 44, 45, 46, 47, 48, 49, 50, 51, 52, 53, 54, 55, 56, 57, 58, 59, 60, 61, 62, 75, 76, 77, 78, 79, 80, 81, 82, 83, 84] (h := hk)
    ·skip
     refine AnyL.gg (n := 0) 4 [1, 9, 10, 11] (h := ?_)
     exact AnyL.ln [1, 2, 3, 10, 11, 12, 34, 35, 36, 37, 38, 39, 40, 41, 42, 43, 44, 45, 46, 47, 48, 49, 50, 51, 52, 53, 54, 55, 56, 57, 58, 59, 60, 61, 62, 75, 76, 77, 78, 79, 80, 81, 82, 83, 84] (h := hk)
   ·skip
    refine AnyL.fk2 (n := 4) 1 4 (k1 := ?_) (k2 := ?_)
    ·skip
     refine AnyL.fk2 (n := 3) 4 9 (k1 := ?_) (k2 := ?_)
     ·skip
      refine AnyL.gg (n := 0) 3 [9, 10, 11] (h := ?_)
      exact AnyL.ln [1, 2, 3, 10, 11, 12, 34, 35, 36, 37, 38, 39, 40, 41, 42, 43, 44, 45, 46, 47, 48, 49, 50, 51, 52, 53, 54, 55, 56, 57, 58, 59, 60, 61, 62, 75, 76, 77, 78, 79, 80, 81, 82, 83, 84] (h := hk)
     ·skip
      refine AnyL.gg (n := 0) 3 [4, 10, 11] (h := ?_)
      exact AnyL.ln [1, 2, 3, 10, 11, 12, 34, 35, 36, 37, 38, 39, 40, 41, 42, 43, 44, 45, 46, 47, 48, 49, 50, 51, 52, 53, 54, 55, 56, 57, 58, 59, 60, 61, 62, 75, 76, 77, 78, 79, 80, 81, 82, 83, 84] (h := hk)
    ·skip
     refine AnyL.gg (n := 0) 4 [1, 9, 10, 11] (h := ?_)
     exact AnyL.ln [1, 2, 3, 10, 11, 12, 34, 35, 36, 37, 38, 39, 40, 41, 42, 43, 44, 45, 46, 47, 48, 49, 50, 51, 52, 53, 54, 55, 56, 57, 58, 59, 60, 61, 62, 75, 76, 77, 78, 79, 80, 81, 82, 83, 84] (h := hk)
  ·skip
   refine AnyL.fk3w (n := 5) 1 4 7 (k1 := ?_) (k2 := ?_) (k3 := ?_)
   ·skip
    refine AnyL.fk3w (n := 4) 4 7 9 (k1 := ?_) (k2 := ?_) (k3 := ?_)
    ·skip
     refine AnyL.fk2 (n := 3) 7 9 (k1 := ?_) (k2 := ?_)
     ·skip
      refine AnyL.gg (n := 0) 3 [9, 10, 11] (h := ?_)
      exact AnyL.ln [1, 2, 3, 10, 11, 12, 34, 35, 36, 37, 38, 39, 40, 41, 42, 43, 44, 45, 46, 47, 48, 49, 50, 51, 52, 53, 54, 55, 56, 57, 58, 59, 60, 61, 62, 75, 76, 77, 78, 79, 80, 81, 82, 83, 84] (h := hk)
     ·skip
      refine AnyL.gg (n := 0) 3 [10, 7, 11] (h := ?_)
      exact AnyL.ln [1, 2, 3, 10, 11, 12, 34, 35, 36, 37, 38, 39, 40, 41, 42, 43, 44, 45, 46, 47, 48, 49, 50, 51, 52, 53, 54, 55, 56, 57, 58, 59, 60, 61, 62, 75, 76, 77, 78, 79, 80, 81, 82, 83, 84] (h := hk)
    ·skip
     refine AnyL.fk2 (n := 3) 4 9 (k1 := ?_) (k2 := ?_)
     ·skip
      refine AnyL.gg (n := 0) 3 [9, 10, 11] (h := ?_)
      exact AnyL.ln [1, 2, 3, 10, 11, 12, 34, 35, 36, 37, 38, 39, 40, 41, 42, 43, 44, 45, 46, 47, 48, 49, 50, 51, 52, 53, 54, 55, 56, 57, 58, 59, 60, 61, 62, 75, 76, 77, 78, 79, 80, 81, 82, 83, 84] (h := hk)
     ·skip
      refine AnyL.gg (n := 0) 3 [4, 10, 11] (h := ?_)
      exact AnyL.ln [1, 2, 3, 10, 11, 12, 34, 35, 36, 37, 38, 39, 40, 41, 42, 43, 44, 45, 46, 47, 48, 49, 50, 51, 52, 53, 54, 55, 56, 57, 58, 59, 60, 61, 62, 75, 76, 77, 78, 79, 80, 81, 82, 83, 84] (h := hk)
    ·skip
     refine AnyL.fk2 (n := 3) 4 7 (k1 := ?_) (k2 := ?_)
     ·skip
      refine AnyL.gg (n := 0) 3 [10, 7, 11] (h := ?_)
      exact AnyL.ln [1, 2, 3, 10, 11, 12, 34, 35, 36, 37, 38, 39, 40, 41, 42, 43, 44, 45, 46, 47, 48, 49, 50, 51, 52, 53, 54, 55, 56, 57, 58, 59, 60, 61, 62, 75, 76, 77, 78, 79, 80, 81, 82, 83, 84] (h := hk)
     ·skip
      refine AnyL.gg (n := 0) 3 [4, 10, 11] (h := ?_)
      exact AnyL.ln [1, 2, 3, 10, 11, 12, 34, 35, 36, 37, 38, 39, 40, 41, 42, 43, 44, 45, 46, 47, 48, 49, 50, 51, 52, 53, 54, 55, 56, 57, 58, 59, 60, 61, 62, 75, 76, 77, 78, 79, 80, 81, 82, 83, 84] (h := hk)
   ·skip
    refine AnyL.fk2 (n := 4) 1 7 (k1 := ?_) (k2 := ?_)
    ·skip
     refine AnyL.fk2 (n := 3) 7 9 (k1 := ?_) (k2 := ?_)
     ·skip
      refine AnyL.gg (n := 0) 3 [9, 10, 11] (h := ?_)
      exact AnyL.ln [1, 2, 3, 10, 11, 12, 34, 35, 36, 37, 38, 39, 40, 41, 42, 43, 44, 45, 46, 47, 48, 49, 50, 51, 52, 53, 54, 55, 56, 57, 58, 59, 60, 61, 62, 75, 76, 77, 78, 79, 80, 81, 82, 83, 84] (h := hk)
     ·skip
      refine AnyL.gg (n := 0) 3 [10, 7, 11] (h := ?_)
      exact AnyL.ln [1, 2, 3, 10, 11, 12, 34, 35, 36, 37, 38, 39, 40, 41, 42, 43, 44, 45, 46, 47, 48, 49, 50, 51, 52, 53, 54, 55, 56, 57, 58, 59, 60, 61, 62, 75, 76, 77, 78, 79, 80, 81, 82, 83, 84] (h := hk)
    ·skip
     refine AnyL.gg (n := 0) 4 [1, 9, 10, 11] (h := ?_)
     exact AnyL.ln [1, 2, 3, 10, 11, 12, 34, 35, 36, 37, 38, 39, 40, 41, 42, 43, 44, 45, 46, 47, 48, 49, 50, 51, 52, 53, 54, 55, 56, 57, 58, 59, 60, 61, 62, 75, 76, 77, 78, 79, 80, 81, 82, 83, 84] (h := hk)
   ·skip
    refine AnyL.fk2 (n := 4) 1 4 (k1 := ?_) (k2 := ?_)
    ·skip
     refine AnyL.fk2 (n := 3) 4 9 (k1 := ?_) (k2 := ?_)
     ·skip
      refine AnyL.gg (n := 0) 3 [9, 10, 11] (h := ?_)
      exact AnyL.ln [1, 2, 3, 10, 11, 12, 34, 35, 36, 37, 38, 39, 40, 41, 42, 43, 44, 45, 46, 47, 48, 49, 50, 51, 52, 53, 54, 55, 56, 57, 58, 59, 60, 61, 62, 75, 76, 77, 78, 79, 80, 81, 82, 83, 84] (h := hk)
     ·skip
      refine AnyL.gg (n := 0) 3 [4, 10, 11] (h := ?_)
      exact AnyL.ln [1, 2, 3, 10, 11, 12, 34, 35, 36, 37, 38, 39, 40, 41, 42, 43, 44, 45, 46, 47, 48, 49, 50, 51, 52, 53, 54, 55, 56, 57, 58, 59, 60, 61, 62, 75, 76, 77, 78, 79, 80, 81, 82, 83, 84] (h := hk)
    ·skip
     refine AnyL.gg (n := 0) 4 [1, 9, 10, 11] (h := ?_)
     exact AnyL.ln [1, 2, 3, 10, 11, 12, 34, 35, 36, 37, 38, 39, 40, 41, 42, 43, 44, 45, 46, 47, 48, 49, 50, 51, 52, 53, 54, 55, 56, 57, 58, 59, 60, 61, 62, 75, 76, 77, 78, 79, 80, 81, 82, 83, 84] (h := hk)
 refine G.nilBlk 2 o.toNat rfl ?_
 apply G.seq
 refine G.rg tab_ok ok_implAlone (hk := ?_)
 apply G.block
 refine G.nm [1, 2, 3, 10, 11, 12, 13] (h := ?_)
 refine G.loopX (fun x : PS × Nat => ⟨[(1, .row false 1 (ins.map ivL)), (2, .int .i64 fuel), (3, .ptr 0 0 0), (10, .ptr 1 0 0), (11, .sl 2 0 x.1.outs.length), (12, .sl 3 0 x.1.used.length), (13, .int .i64 (fuel - (x.2 : Nat)))], [some (3, [[.int .i64 i, .int .i64 o, .row false 4 (l.map insv)]]), some (2, [[.int .i64 x.1.pc, .sl 4 0 x.1.rs.length]]), some (1, x.1.outs.map ovL), some (1, x.1.used.map iv), some (1, x.1.rs.map iv)], 106⟩) (fun x => PW i o l ins x.1 ∧ goP l ins x.2 x.1 = R ∧ (x.2 : Int) ≤ fuel) (fun x => x.2) ((ps0 i o, fuel.toNat)) (⟨PW.init hc1 hc2, hR, by simp only; omega⟩) (by simp [ps0, nilsL, iv]; omega) ?_
 intro x hx J hJ
 obtain ⟨s, n⟩ := x
 simp only at hx ⊢
 obtain ⟨hw, hg, hn⟩ := hx
 obtain ⟨hpc0, hpc1⟩ := hw.pc0
 have hul := hw.ul
 have hol := hw.ol
 obtain ⟨p, hp⟩ : ∃ p, (wantK l s.pc).2 = p := ⟨_, rfl⟩
 have hfou : ∀ x : List (List Int), List.take x.length (List.map ovL x) = List.map ovL x := fun x => List.take_of_length_le (by simp)
 have hcase : (wantK l s.pc).1 = 0 ∨ (wantK l s.pc).1 = 1 ∨ ((wantK l s.pc).1 = 2 ∧ s.used.getD p.toNat default = ((ins.getD p.toNat default).length : Int)) ∨ ((wantK l s.pc).1 = 2 ∧ ¬ s.used.getD p.toNat default = ((ins.getD p.toNat default).length : Int)) ∨
   ((wantK l s.pc).1 = 3 ∧ (s.outs.getD p.toNat default).length = 400) ∨ ((wantK l s.pc).1 = 3 ∧ ¬ (s.outs.getD p.toNat default).length = 400) := by
  rcases wantK_cases l s.pc with h | h | h | h
  ·exact .inl h
  ·exact .inr (.inl h)
  ·by_cases e : s.used.getD p.toNat default = ((ins.getD p.toNat default).length : Int)
   ·exact .inr (.inr (.inl ⟨h, e⟩))
   ·exact .inr (.inr (.inr (.inl ⟨h, e⟩)))
  ·by_cases e : (s.outs.getD p.toNat default).length = 400
   ·exact .inr (.inr (.inr (.inr (.inl ⟨h, e⟩))))
   ·exact .inr (.inr (.inr (.inr (.inr ⟨h, e⟩))))
 rcases hcase with c0 | c0 | ⟨c0, c1⟩ | ⟨c0, c1⟩ | ⟨c0, c1⟩ | ⟨c0, c1⟩
 ·skip
  have hst : stopP l ins s = true := by simp [stopP, wP, c0]
  apply G.seq
  apply G.block
  apply G.seq
  refine G.rg tab_ok ok_implAlone (hk := ?_)
  apply G.seq
  apply G.seq
  refine G.dr mixed tab_ok ok_implAlone [0, 1, 2, 3, 4, 5, 6, 7, 8, 9, 10, 11, 12, 13, 14, 15, 16, 17, 18, 19, 20, 21, 22, 23, 24, 25, 26, 27, 28, 29] (hk := ?_)
  refine G.iffT (h1 := ?_)
  apply G.seq
  refine G.fg [11, 12, 14, 15] (hk := ?_)
  refine G.rg tab_ok ok_implAlone (hk := ?_)
  refine G.fin tab_ok (hr := ?_)
  simp only [hfou, oneOrTup]
  rw [← hg, goP_stop hst]
  simp only [wP, c0, hp]
 ·skip
  have hst : stopP l ins s = false := by simp [stopP, wP, c0]
  have hn0 : ¬ (wP l s).1 = 0 := by show ¬ (wantK l s.pc).1 = 0; rw [c0]; decide
  obtain ⟨hreg, hop⟩ := hw.reg hc1 hn0
  have hlt := hw.lt hn0
  have hreg2 : RegOk (l.getD s.pc.toNat default) s.rs := hreg
  apply G.seq
  apply G.block
  apply G.seq
  refine G.rg tab_ok ok_implAlone (hk := ?_)
  apply G.seq
  apply G.seq
  refine G.dr mixed tab_ok ok_implAlone [0, 1, 2, 3, 4, 5, 6, 7, 8, 9, 10, 11, 12, 13, 14, 15, 16, 17, 18, 19, 20, 21, 22, 23, 24, 25, 26, 27, 28, 29] (hk := ?_)
  refine G.iffF (h2 := ?_)
  apply G.skip
  apply G.seq
  apply G.seq
  refine G.fg [1, 2, 3, 10, 11, 12, 13, 14, 15, 75, 76, 77, 78, 79, 80, 81, 82, 83, 84] (hk := ?_)
  refine G.rg tab_ok ok_implAlone (hk := ?_)
  refine G.iff (h1 := fun h3 => ?_) (h2 := fun h3 => ?_)
  ·try simp only [zqz] at h3
   apply G.seq
   refine G.rg tab_ok ok_implAlone (hk := ?_)
   refine G.fin tab_ok (hr := ?_)
   obtain rfl : n = 0 := by omega
   simp only [hfou, oneOrTup]
   rw [← hg, goP_zero hst]
  ·try simp only [zqz] at h3
   apply G.skip
   apply G.seq
   have hn0 : n ≠ 0 := by omega
   have hwn2 : IntKind.i64.wrap (fuel - ((n - 1 : Nat) : Int)) = fuel - ((n - 1 : Nat) : Int) := wrap64 (by omega) (by omega)
   have hn1 : fuel - (n : Int) + 1 = fuel - ((n - 1 : Nat) : Int) := by omega
   have hwn : IntKind.i64.wrap (fuel - (n : Int) + 1) = fuel - (n : Int) + 1 := wrap64 (by omega) (by omega)
   refine G.rg tab_ok ok_implAlone (hk := ?_)
   apply G.seq
   apply G.seq
   refine G.rg tab_ok ok_implAlone (hk := ?_)
   refine G.iffF (h2 := ?_)
   apply G.skip
   apply G.seq
   refine G.rgN 2 tab_ok ok_implAlone (hk := ?_)
   refine G.cf [1, 4] en_implStep (implStep_mc _ i o l s.pc s.rs 0 rfl hpc0 hlt hl24 hreg2) (h := ?_)
   refine G.rgC tab_ok ok_implAlone (hk := ?_)
   apply G.seq
   refine G.rg tab_ok ok_implAlone (hk := ?_)
   refine G.iffF (h2 := ?_)
   apply G.skip
   apply G.blk
   refine G.rg tab_ok ok_implAlone (hk := ?_)
   refine G.nm [1, 2, 3, 10, 11, 12, 13] (h := ?_)
   exact G.upto (hJ (nextP l ins s, n - 1) ⟨hw.next hc1 hc2 hst, goP_pred hst (by omega) hg, by simp only; omega⟩ (by simp only; omega)) (by simp [nextP, wP, xP, tokP, c0, hp, hn1, hwn2, stepRs_len])
 ·skip
  have hrd := hw.read hc1 (show (wP l s).1 = 2 from c0)
  simp only [wP, hp] at hrd
  have hq0 : 0 ≤ p := hrd.1
  have hq1 : p < (s.used.length : Int) := by omega
  have hq2 : p.toNat < s.used.length := by omega
  have hq3 : p < (ins.length : Int) := by omega
  have hq4 : p.toNat < ins.length := by omega
  have hub := hw.ub p.toNat hq2
  have hbt : (s.used.getD p.toNat default == (((ins.getD p.toNat default).length : Nat) : Int)) = true := by rw [beq_iff_eq]; exact c1
  have hst : stopP l ins s = true := by rw [stopP_two c0 hp]; exact hbt
  apply G.seq
  apply G.block
  apply G.seq
  refine G.rg tab_ok ok_implAlone (hk := ?_)
  apply G.seq
  apply G.seq
  refine G.dr mixed tab_ok ok_implAlone [0, 1, 2, 3, 4, 5, 6, 7, 8, 9, 10, 11, 12, 13, 14, 15, 16, 17, 18, 19, 20, 21, 22, 23, 24, 25, 26, 27, 28, 29] (hk := ?_)
  refine G.iffT (h1 := ?_)
  apply G.seq
  refine G.fg [11, 12, 14, 15] (hk := ?_)
  refine G.rg tab_ok ok_implAlone (hk := ?_)
  refine G.fin tab_ok (hr := ?_)
  simp only [hfou, oneOrTup]
  rw [← hg, goP_stop hst]
  simp only [wP, c0, hp]
 ·skip
  have hrd := hw.read hc1 (show (wP l s).1 = 2 from c0)
  simp only [wP, hp] at hrd
  have hq0 : 0 ≤ p := hrd.1
  have hq1 : p < (s.used.length : Int) := by omega
  have hq2 : p.toNat < s.used.length := by omega
  have hq3 : p < (ins.length : Int) := by omega
  have hq4 : p.toNat < ins.length := by omega
  have hub := hw.ub p.toNat hq2
  have hbt : (s.used.getD p.toNat default == (((ins.getD p.toNat default).length : Nat) : Int)) = false := by rw [beq_eq_false_iff_ne]; exact c1
  have hst : stopP l ins s = false := by rw [stopP_two c0 hp]; exact hbt
  have hn0 : ¬ (wP l s).1 = 0 := by show ¬ (wantK l s.pc).1 = 0; rw [c0]; decide
  obtain ⟨hreg, hop⟩ := hw.reg hc1 hn0
  have hlt := hw.lt hn0
  have hreg2 : RegOk (l.getD s.pc.toNat default) s.rs := hreg
  have hu0 : 0 ≤ s.used.getD p.toNat default := hub.1
  have hu1 : s.used.getD p.toNat default < ((ins.getD p.toNat default).length : Int) := by have := hub.2; omega
  have hu2 : (s.used.getD p.toNat default).toNat < (ins.getD p.toNat default).length := by omega
  have hsub : (ins.getD p.toNat default).length ≤ 400 := strLen (hc2.it _ (getD_mem hq4))
  have hset : ∀ v : Int, (List.map iv s.used).set p.toNat [.int .i64 v] = List.map iv (s.used.set p.toNat v) := fun v => by rw [List.map_set]; rfl
  have hugt : (List.map iv s.used)[p.toNat]? = some [.int .i64 (s.used.getD p.toNat default)] := by simp [hq2, iv]
  have hwu : IntKind.i64.wrap (s.used.getD p.toNat default + 1) = s.used.getD p.toNat default + 1 := wrap64 (by omega) (by omega)
  apply G.seq
  apply G.block
  apply G.seq
  refine G.rg tab_ok ok_implAlone (hk := ?_)
  apply G.seq
  apply G.seq
  refine G.dr mixed tab_ok ok_implAlone [0, 1, 2, 3, 4, 5, 6, 7, 8, 9, 10, 11, 12, 13, 14, 15, 16, 17, 18, 19, 20, 21, 22, 23, 24, 25, 26, 27, 28, 29] (hk := ?_)
  refine G.iffF (h2 := ?_)
  apply G.skip
  apply G.seq
  apply G.seq
  refine G.fg [1, 2, 3, 10, 11, 12, 13, 14, 15, 75, 76, 77, 78, 79, 80, 81, 82, 83, 84] (hk := ?_)
  refine G.rg tab_ok ok_implAlone (hk := ?_)
  refine G.iff (h1 := fun h8 => ?_) (h2 := fun h8 => ?_)
  ·try simp only [zqz] at h8
   apply G.seq
   refine G.rg tab_ok ok_implAlone (hk := ?_)
   refine G.fin tab_ok (hr := ?_)
   obtain rfl : n = 0 := by omega
   simp only [hfou, oneOrTup]
   rw [← hg, goP_zero hst]
  ·try simp only [zqz] at h8
   apply G.skip
   apply G.seq
   have hn0 : n ≠ 0 := by omega
   have hwn2 : IntKind.i64.wrap (fuel - ((n - 1 : Nat) : Int)) = fuel - ((n - 1 : Nat) : Int) := wrap64 (by omega) (by omega)
   have hn1 : fuel - (n : Int) + 1 = fuel - ((n - 1 : Nat) : Int) := by omega
   have hwn : IntKind.i64.wrap (fuel - (n : Int) + 1) = fuel - (n : Int) + 1 := wrap64 (by omega) (by omega)
   refine G.rg tab_ok ok_implAlone (hk := ?_)
   apply G.seq
   apply G.seq
   refine G.rg tab_ok ok_implAlone (hk := ?_)
   refine G.iffT (h1 := ?_)
   apply G.seq
   refine G.dr mixed tab_ok ok_implAlone [0, 1, 2, 3, 4, 5, 6, 7, 8, 9, 10] (hk := ?_)
   refine G.rg tab_ok ok_implAlone (hk := ?_)
   apply G.seq
   refine G.rgN 2 tab_ok ok_implAlone (hk := ?_)
   refine G.cf [1, 4] en_implStep (implStep_mc _ i o l s.pc s.rs ((ins.getD p.toNat default).getD (s.used.getD p.toNat default).toNat default) rfl hpc0 hlt hl24 hreg2) (h := ?_)
   refine G.rgC tab_ok ok_implAlone (hk := ?_)
   apply G.seq
   refine G.rg tab_ok ok_implAlone (hk := ?_)
   refine G.iffF (h2 := ?_)
   apply G.skip
   apply G.blk
   refine G.rg tab_ok ok_implAlone (hk := ?_)
   refine G.nm [1, 2, 3, 10, 11, 12, 13] (h := ?_)
   exact G.upto (hJ (nextP l ins s, n - 1) ⟨hw.next hc1 hc2 hst, goP_pred hst (by omega) hg, by simp only; omega⟩ (by simp only; omega)) (by simp [nextP, wP, xP, tokP, c0, hp, hn1, hwn2, stepRs_len])
 ·skip
  have hrd := hw.write hc1 (show (wP l s).1 = 3 from c0)
  simp only [wP, hp] at hrd
  have hq0 : 0 ≤ p := hrd.1
  have hq1 : p < (s.outs.length : Int) := by omega
  have hq2 : p.toNat < s.outs.length := by omega
  have hob := hw.ob _ (getD_mem hq2)
  have hget : ∀ a : List A, ((s.outs.map ovL).set p.toNat a)[p.toNat]? = some a := fun a => List.getElem?_set_self (by simpa using hq2)
  have hrdc : ∀ a : A, rdCells ((s.outs.map ovL).set p.toNat [a]) p.toNat 0 1 = some [a] := fun a => by simp [rdCells, hget]
  have hss : ∀ a b : List A, ((s.outs.map ovL).set p.toNat a).set p.toNat b = (s.outs.map ovL).set p.toNat b := fun a b => List.set_set ..
  have hsame : s.outs.set p.toNat (s.outs.getD p.toNat default) = s.outs := by
   rw [List.getD_eq_getElem?_getD, List.getElem?_eq_getElem hq2]
   exact List.set_getElem_self hq2
  have hbt : ((((s.outs.getD p.toNat default).length : Nat) : Int) == 400) = true := by rw [beq_iff_eq]; omega
  have hst : stopP l ins s = true := by rw [stopP_three c0 hp]; exact hbt
  apply G.seq
  apply G.block
  apply G.seq
  refine G.rg tab_ok ok_implAlone (hk := ?_)
  apply G.seq
  apply G.seq
  refine G.focusO 2 p.toNat rfl hq2 ?_
  refine G.dr mixed tab_ok ok_implAlone [0, 1, 2, 3, 4, 5, 6, 7, 8, 9, 10, 11, 12, 13, 14, 15, 16, 17, 18, 19, 20, 21, 22, 23, 24, 25, 26, 27, 28, 29] (hk := ?_)
  refine G.iffT (h1 := ?_)
  apply G.seq
  refine G.fg [11, 12, 14, 15] (hk := ?_)
  refine G.unfocusO 2 p.toNat 5 rfl rfl (by decide) c1.symm hq2 ?_
  rw [hsame]
  refine G.rg tab_ok ok_implAlone (hk := ?_)
  refine G.fin tab_ok (hr := ?_)
  simp only [hfou, oneOrTup]
  rw [← hg, goP_stop hst]
  simp only [wP, c0, hp]
 ·skip
  have hrd := hw.write hc1 (show (wP l s).1 = 3 from c0)
  simp only [wP, hp] at hrd
  have hq0 : 0 ≤ p := hrd.1
  have hq1 : p < (s.outs.length : Int) := by omega
  have hq2 : p.toNat < s.outs.length := by omega
  have hob := hw.ob _ (getD_mem hq2)
  have hget : ∀ a : List A, ((s.outs.map ovL).set p.toNat a)[p.toNat]? = some a := fun a => List.getElem?_set_self (by simpa using hq2)
  have hrdc : ∀ a : A, rdCells ((s.outs.map ovL).set p.toNat [a]) p.toNat 0 1 = some [a] := fun a => by simp [rdCells, hget]
  have hss : ∀ a b : List A, ((s.outs.map ovL).set p.toNat a).set p.toNat b = (s.outs.map ovL).set p.toNat b := fun a b => List.set_set ..
  have hsame : s.outs.set p.toNat (s.outs.getD p.toNat default) = s.outs := by
   rw [List.getD_eq_getElem?_getD, List.getElem?_eq_getElem hq2]
   exact List.set_getElem_self hq2
  have hbt : ((((s.outs.getD p.toNat default).length : Nat) : Int) == 400) = false := by rw [beq_eq_false_iff_ne]; omega
  have hst : stopP l ins s = false := by rw [stopP_three c0 hp]; exact hbt
  have hn0 : ¬ (wP l s).1 = 0 := by show ¬ (wantK l s.pc).1 = 0; rw [c0]; decide
  obtain ⟨hreg, hop⟩ := hw.reg hc1 hn0
  have hlt := hw.lt hn0
  have hreg2 : RegOk (l.getD s.pc.toNat default) s.rs := hreg
  have happ : ∀ v : Int, List.map iv (s.outs.getD p.toNat default) ++ [[.int .i64 v]] = List.map iv (s.outs.getD p.toNat default ++ [v]) := fun v => by simp [iv]
  have hbo1 : (((s.outs.getD p.toNat default).length + 1 : Nat) : Int) ≤ 4611686018427387904 := by omega
  have hbo2 : ((s.outs.getD p.toNat default).length + 1) * 8 ≤ 70368744177664 := by omega
  apply G.seq
  apply G.block
  apply G.seq
  refine G.rg tab_ok ok_implAlone (hk := ?_)
  apply G.seq
  apply G.seq
  refine G.focusO 2 p.toNat rfl hq2 ?_
  refine G.dr mixed tab_ok ok_implAlone [0, 1, 2, 3, 4, 5, 6, 7, 8, 9, 10, 11, 12, 13, 14, 15, 16, 17, 18, 19, 20, 21, 22, 23, 24, 25, 26, 27, 28, 29] (hk := ?_)
  refine G.iffF (h2 := ?_)
  apply G.skip
  apply G.seq
  apply G.seq
  refine G.fg [1, 2, 3, 10, 11, 12, 13, 14, 15, 75, 76, 77, 78, 79, 80, 81, 82, 83, 84] (hk := ?_)
  refine G.rg tab_ok ok_implAlone (hk := ?_)
  refine G.iff (h1 := fun h13 => ?_) (h2 := fun h13 => ?_)
  ·try simp only [zqz] at h13
   apply G.seq
   refine G.unfocusO 2 p.toNat 5 rfl rfl (by decide) rfl hq2 ?_
   rw [hsame]
   refine G.rg tab_ok ok_implAlone (hk := ?_)
   refine G.fin tab_ok (hr := ?_)
   obtain rfl : n = 0 := by omega
   simp only [hfou, oneOrTup]
   rw [← hg, goP_zero hst]
  ·try simp only [zqz] at h13
   apply G.skip
   apply G.seq
   have hn0 : n ≠ 0 := by omega
   have hwn2 : IntKind.i64.wrap (fuel - ((n - 1 : Nat) : Int)) = fuel - ((n - 1 : Nat) : Int) := wrap64 (by omega) (by omega)
   have hn1 : fuel - (n : Int) + 1 = fuel - ((n - 1 : Nat) : Int) := by omega
   have hwn : IntKind.i64.wrap (fuel - (n : Int) + 1) = fuel - (n : Int) + 1 := wrap64 (by omega) (by omega)
   refine G.rg tab_ok ok_implAlone (hk := ?_)
   apply G.seq
   apply G.seq
   refine G.rg tab_ok ok_implAlone (hk := ?_)
   refine G.iffF (h2 := ?_)
   apply G.skip
   apply G.seq
   refine G.rgN 2 tab_ok ok_implAlone (hk := ?_)
   refine G.cf [1, 4] en_implStep (implStep_mc _ i o l s.pc s.rs 0 rfl hpc0 hlt hl24 hreg2) (h := ?_)
   refine G.rgC tab_ok ok_implAlone (hk := ?_)
   apply G.seq
   refine G.rg tab_ok ok_implAlone (hk := ?_)
   refine G.iffT (h1 := ?_)
   refine G.rg tab_ok ok_implAlone (hk := ?_)
   refine G.unfocusO 2 p.toNat 7 (r := s.outs.getD p.toNat default ++ [stepW (l.getD s.pc.toNat default) s.rs]) rfl rfl (by decide) (by simp) hq2 ?_
   apply G.blk
   refine G.rg tab_ok ok_implAlone (hk := ?_)
   refine G.nm [1, 2, 3, 10, 11, 12, 13] (h := ?_)
   exact G.upto (hJ (nextP l ins s, n - 1) ⟨hw.next hc1 hc2 hst, goP_pred hst (by omega) hg, by simp only; omega⟩ (by simp only; omega)) (by simp [nextP, wP, xP, tokP, c0, hp, hn1, hwn2, stepRs_len])
def r_implAlone (xs0 : List A) (rr : A) : Prop := ∃ (i : Int) (o : Int) (l : List I4) (ins : List (List Int)) (fuel : Int), (progOk i o l = true) ∧ (IW i ins) ∧ (0 ≤ fuel) ∧ (fuel ≤ 3000) ∧ xs0 = [.agg [.int .i64 i, .int .i64 o, .row false 4 (l.map insv)], .row false 1 (ins.map ivL), .int .i64 fuel] ∧ rr = .tup [.row true 1 ((goP l ins fuel.toNat (ps0 i o)).1.outs.map ovL), .row true 1 ((goP l ins fuel.toNat (ps0 i o)).1.used.map iv), .int .i64 (goP l ins fuel.toNat (ps0 i o)).2.1, .int .i64 (goP l ins fuel.toNat (ps0 i o)).2.2]
noncomputable def q_implAlone : List A → Option A := kgr r_implAlone
theorem k_implAlone : KOk Try.prog (98, q_implAlone) := kgr_ok (enters_of Try.func98 rfl rfl) (by rintro xs0 rr ⟨i, o, l, ins, fuel, hc1, hc2, hc3, hc4, rfl, rfl⟩; exact implAlone_ac i o l ins fuel hc1 hc2 hc3 hc4)
theorem e_implAlone : ∀ (i : Int) (o : Int) (l : List I4) (ins : List (List Int)) (fuel : Int), (progOk i o l = true) → (IW i ins) → (0 ≤ fuel) → (fuel ≤ 3000) → q_implAlone [.agg [.int .i64 i, .int .i64 o, .row false 4 (l.map insv)], .row false 1 (ins.map ivL), .int .i64 fuel] = some (.tup [.row true 1 ((goP l ins fuel.toNat (ps0 i o)).1.outs.map ovL), .row true 1 ((goP l ins fuel.toNat (ps0 i o)).1.used.map iv), .int .i64 (goP l ins fuel.toNat (ps0 i o)).2.1, .int .i64 (goP l ins fuel.toNat (ps0 i o)).2.2]) := by
 intro i o l ins fuel hc1 hc2 hc3 hc4
 refine kgr_eq (fun xs0 rr r2 h h2 => ?_) ⟨i, o, l, ins, fuel, hc1, hc2, hc3, hc4, rfl, rfl⟩
 obtain ⟨i1, o1, l1, ins1, fuel1, _, _, _, _, e1, rfl⟩ := h; obtain ⟨i2, o2, l2, ins2, fuel2, _, _, _, _, e2, rfl⟩ := h2
 rw [e1] at e2
 simp only [List.cons.injEq, A.int.injEq, A.agg.injEq, A.row.injEq, insv_inj, ivL_inj, true_and, and_true] at e2
 obtain ⟨⟨e3, e4, e5⟩, e6, e7⟩ := e2
 subst e3 e4 e5 e6 e7
 rfl
end Go.Proofs.Ytimgfinlbhodhaa.Ab
