/- Walks of functions of the program, and the plain definitions. -/
import Derived.Test.YtimgfinlbhodhaaFwGa
import Derived.Laws.StructEq
namespace Go.Proofs.Ytimgfinlbhodhaa.Ab
open Go
set_option linter.unusedVariables false
set_option linter.unusedSimpArgs false
theorem four {w : World} {S : Nat → Prop} {φ : List (Option Loc)} {v : Value} {a b c d : Int} (h : Rel w S φ (.agg [.int .i64 a, .int .i64 b, .int .i64 c, .int .i64 d]) v []) : v = .agg #[.int .i64 a, .int .i64 b, .int .i64 c, .int .i64 d] := by
 generalize hf : ([] : List Nat) = f at h
 cases h with
 | agg h =>
  cases h with | cons h1 h => cases h1; cases h with | cons h2 h => cases h2; cases h with | cons h3 h => cases h3; cases h with | cons h4 h => cases h4; cases h; rfl
theorem uI : Try.prog.underlying 140 = some (.struct (Try.prog.fieldsOf 140)) := by kernel_rfl
theorem sI : Try.prog.stoodInHeld 140 = false := by kernel_rfl
theorem gI : Try.prog.eqGuardType Try.prog.depth 140 = false := by kernel_rfl
theorem lI : ((Try.prog.fieldsOf 140).toList.map fun f => (f.name == "_", f.type, f.offset)) = [(false, 3, 0), (false, 3, 1), (false, 3, 2), (false, 3, 3)] := by kernel_rfl
theorem iInt : Try.prog.underlying 3 = some (.int .i64) := by kernel_rfl
theorem partI {xs : Array Value} {i : Nat} {v : Value} (h : xs[i]? = some v) (w : World) : (part 3 xs i).run Try.prog w = .ok v w := by
 unfold part
 simp only [Sem.run_bind, run_isAgg_fit (tab_ok 3 _ tab_3) w, Result.andThen_ok, TK.agg, Bool.false_eq_true, if_false, h, Sem.run_pure]
theorem eqF_cons {d : Nat} {xs ys : Array Value} {f : Field} {fs : List Field} {a b : Int} {s : Bool} {w : World} (hn : (f.name == "_") = false) (ht : f.type = 3) (ha : xs[f.offset]? = some (.int .i64 a)) (hb : ys[f.offset]? = some (.int .i64 b))
  (hr : (Op.eqFields (d + 1) xs ys fs).run Try.prog w = .ok s w) : (Op.eqFields (d + 1) xs ys (f :: fs)).run Try.prog w = .ok ((a == b) && s) w := by
 have hn' : f.name ≠ "_" := by simpa using hn
 rw [Op.eqFields]
 simp only [if_pos hn', Sem.run_bind, ht, partI ha w, partI hb w, Result.andThen_ok, run_equalIn_int w d 3 .i64 .i64 a b iInt]
 cases a == b
 ·simp
 ·simpa using hr
theorem eqF_nil {d : Nat} {xs ys : Array Value} {w : World} : (Op.eqFields d xs ys []).run Try.prog w = .ok true w := by simp [Op.eqFields]
theorem eqI {S0 : Nat → Prop} {st : St} {a : Act} {w : World} {φ : List (Option Loc)} {fs : List Nat} (h : SRel S0 st a w φ fs) {o : Oper} {p q : Nat} {a1 b1 c1 d1 a2 b2 c2 d2 : Int} (ho : o.op = .binOp .eql 140 (.tmp p) (.tmp q) 140)
  (hp : look st.env p = .agg [.int .i64 a1, .int .i64 b1, .int .i64 c1, .int .i64 d1]) (hq : look st.env q = .agg [.int .i64 a2, .int .i64 b2, .int .i64 c2, .int .i64 d2]) :
  ∃ v, (execOp a.eval o).run Try.prog w = .ok (.value v) w ∧ Rel w (Sof S0 fs) φ (.bool ((a1 == a2) && ((b1 == b2) && ((c1 == c2) && ((d1 == d2) && true))))) v [] := by
 have h1 := h.env p
 have h2 := h.env q
 rw [hp] at h1
 rw [hq] at h2
 have e1 := four h1
 have e2 := four h2
 refine ⟨.bool _, ?_, .bool _⟩
 have ev1 : a.eval (.tmp p) = .agg #[.int .i64 a1, .int .i64 b1, .int .i64 c1, .int .i64 d1] := e1
 have ev2 : a.eval (.tmp q) = .agg #[.int .i64 a2, .int .i64 b2, .int .i64 c2, .int .i64 d2] := e2
 unfold execOp
 rw [ho]
 simp only [ev1, ev2, Sem.run_bind, run_eqGuard_agg w _ _ _ _ _ _ gI, Result.andThen_ok, run_eql_struct]
 rw [run_equalIn_struct w 9999 140 _ _ uI sI]
 have hl := lI
 generalize (Try.prog.fieldsOf 140).toList = l at hl
 rcases l with _ | ⟨f0, _ | ⟨f1, _ | ⟨f2, _ | ⟨f3, _ | ⟨f4, l⟩⟩⟩⟩⟩ <;> simp at hl
 obtain ⟨⟨n0, t0, o0⟩, ⟨n1, t1, o1⟩, ⟨n2, t2, o2⟩, ⟨n3, t3, o3⟩⟩ := hl
 rw [eqF_cons (by simpa using n0) t0 (by rw [o0]; rfl) (by rw [o0]; rfl) (eqF_cons (by simpa using n1) t1 (by rw [o1]; rfl) (by rw [o1]; rfl) (eqF_cons (by simpa using n2) t2 (by rw [o2]; rfl) (by rw [o2]; rfl) (eqF_cons (by simpa using n3) t3 (by rw [o3]; rfl) (by rw [o3]; rfl) eqF_nil)))]
 simp
set_option maxHeartbeats 4000000
theorem l1In_ac (x : Int) (a : Int) (b : Int)  : AC Try.prog 73 [.int .i64 x, .int .i64 a, .int .i64 b] (.bool (decide (x ≥ a) && decide (x ≤ b))) := by
 refine AC.of tab_ok Try.func73 rfl (Nat.le_of_ble_eq_true rfl) fun w0 S0 => ?_
 change G _ _ ⟨[(0, .int .i64 x), (1, .int .i64 a), (2, .int .i64 b)], [], 15⟩
 apply G.seq
 refine G.rg tab_ok (kof_nil _) (hk := ?_)
 apply G.seq
 refine G.rg tab_ok (kof_nil _) (hk := ?_)
 refine G.fin tab_ok (hr := ?_)
 rfl
def r_l1In (xs0 : List A) (rr : A) : Prop := ∃ (x : Int) (a : Int) (b : Int), xs0 = [.int .i64 x, .int .i64 a, .int .i64 b] ∧ rr = .bool (decide (x ≥ a) && decide (x ≤ b))
noncomputable def q_l1In : List A → Option A := kgr r_l1In
theorem k_l1In : KOk Try.prog (73, q_l1In) := kgr_ok (enters_of Try.func73 rfl rfl) (by rintro xs0 rr ⟨x, a, b, rfl, rfl⟩; exact l1In_ac x a b)
theorem e_l1In : ∀ (x : Int) (a : Int) (b : Int), q_l1In [.int .i64 x, .int .i64 a, .int .i64 b] = some (.bool (decide (x ≥ a) && decide (x ≤ b))) := by
 intro x a b
 refine kgr_eq (fun xs0 rr r2 h h2 => ?_) ⟨x, a, b, rfl, rfl⟩
 obtain ⟨x1, a1, b1, e1, rfl⟩ := h; obtain ⟨x2, a2, b2, e2, rfl⟩ := h2
 rw [e1] at e2
 simp only [List.cons.injEq, A.int.injEq, A.bool.injEq, A.agg.injEq, A.row.injEq, A.fn.injEq, A.rp.injEq, insv_inj, iv_inj, true_and, and_true] at e2
 simp [e2]
theorem isReg_ac (x : Int)  : AC Try.prog 186 [.int .i64 x] (.bool (decide (x ≥ 0) && decide (x ≤ 3))) := by
 refine AC.of tab_ok Try.func186 rfl (Nat.le_of_ble_eq_true rfl) fun w0 S0 => ?_
 change G _ _ ⟨[(0, .int .i64 x)], [], 9⟩
 apply G.seq
 refine G.rg tab_ok (kof_nil _) (hk := ?_)
 apply G.seq
 refine G.rg tab_ok (kof_nil _) (hk := ?_)
 refine G.fin tab_ok (hr := ?_)
 rfl
def r_isReg (xs0 : List A) (rr : A) : Prop := ∃ (x : Int), xs0 = [.int .i64 x] ∧ rr = .bool (decide (x ≥ 0) && decide (x ≤ 3))
noncomputable def q_isReg : List A → Option A := kgr r_isReg
theorem k_isReg : KOk Try.prog (186, q_isReg) := kgr_ok (enters_of Try.func186 rfl rfl) (by rintro xs0 rr ⟨x, rfl, rfl⟩; exact isReg_ac x)
theorem e_isReg : ∀ (x : Int), q_isReg [.int .i64 x] = some (.bool (decide (x ≥ 0) && decide (x ≤ 3))) := by
 intro x
 refine kgr_eq (fun xs0 rr r2 h h2 => ?_) ⟨x, rfl, rfl⟩
 obtain ⟨x1, e1, rfl⟩ := h; obtain ⟨x2, e2, rfl⟩ := h2
 rw [e1] at e2
 simp only [List.cons.injEq, A.int.injEq, A.bool.injEq, A.agg.injEq, A.row.injEq, A.fn.injEq, A.rp.injEq, insv_inj, iv_inj, true_and, and_true] at e2
 simp [e2]
theorem ok_l1Token : Kn.ok Try.prog (kof [(73, q_l1In)]) := kof_cons k_l1In ((kof_nil _))
def inR (x a b : Int) : Bool := decide (x ≥ a) && decide (x ≤ b)
def tok (x : Int) : Bool := inR x (-999999) 999999
def opsOk (i o n : Int) (x : I4) : Bool :=
 if x.1 = 1 then inR x.2.1 0 3 && inR x.2.2.1 0 (i - 1) && (x.2.2.2 == 0)
 else if x.1 = 2 then inR x.2.1 0 3 && inR x.2.2.1 0 (o - 1) && (x.2.2.2 == 0)
 else if x.1 = 3 then inR x.2.1 0 3 && tok x.2.2.1 && (x.2.2.2 == 0)
 else if x.1 = 4 ∨ x.1 = 5 ∨ x.1 = 6 ∨ x.1 = 7 then inR x.2.1 0 3 && inR x.2.2.1 0 3 && inR x.2.2.2 0 3
 else if x.1 = 8 then (x.2.1 == 0) && (inR x.2.2.1 0 n && (x.2.2.2 == 0))
 else if x.1 = 9 ∨ x.1 = 10 then inR x.2.1 0 3 && (inR x.2.2.1 0 n && (x.2.2.2 == 0))
 else if x.1 = 11 then (x.2.1 == 0) && (x.2.2.1 == 0) && (x.2.2.2 == 0) else false
def progOk (i o : Int) (l : List I4) : Bool := inR i 0 3 && inR o 0 3 && inR l.length 1 24 && l.all (opsOk i o l.length)
theorem l1Token_ac (x : Int)  : AC Try.prog 148 [.int .i64 x] (.bool (tok x)) := by
 have e_l1In := e_l1In
 refine AC.of tab_ok Try.func148 rfl (Nat.le_of_ble_eq_true rfl) fun w0 S0 => ?_
 change G _ _ ⟨[(0, .int .i64 x)], [], 5⟩
 apply G.seq
 refine G.rg tab_ok ok_l1Token (hk := ?_)
 apply G.seq
 refine G.rg tab_ok ok_l1Token (hk := ?_)
 refine G.fin tab_ok (hr := ?_)
 rfl
def r_l1Token (xs0 : List A) (rr : A) : Prop := ∃ (x : Int), xs0 = [.int .i64 x] ∧ rr = .bool (tok x)
noncomputable def q_l1Token : List A → Option A := kgr r_l1Token
theorem k_l1Token : KOk Try.prog (148, q_l1Token) := kgr_ok (enters_of Try.func148 rfl rfl) (by rintro xs0 rr ⟨x, rfl, rfl⟩; exact l1Token_ac x)
theorem e_l1Token : ∀ (x : Int), q_l1Token [.int .i64 x] = some (.bool (tok x)) := by
 intro x
 refine kgr_eq (fun xs0 rr r2 h h2 => ?_) ⟨x, rfl, rfl⟩
 obtain ⟨x1, e1, rfl⟩ := h; obtain ⟨x2, e2, rfl⟩ := h2
 rw [e1] at e2
 simp only [List.cons.injEq, A.int.injEq, A.bool.injEq, A.agg.injEq, A.row.injEq, A.fn.injEq, A.rp.injEq, insv_inj, iv_inj, true_and, and_true] at e2
 simp [e2]
theorem isToken_ac (x : Int)  : AC Try.prog 101 [.int .i64 x] (.bool (tok x)) := by
 refine AC.of tab_ok Try.func101 rfl (Nat.le_of_ble_eq_true rfl) fun w0 S0 => ?_
 change G _ _ ⟨[(0, .int .i64 x)], [], 9⟩
 apply G.seq
 refine G.rg tab_ok (kof_nil _) (hk := ?_)
 apply G.seq
 refine G.rg tab_ok (kof_nil _) (hk := ?_)
 refine G.fin tab_ok (hr := ?_)
 rfl
def r_isToken (xs0 : List A) (rr : A) : Prop := ∃ (x : Int), xs0 = [.int .i64 x] ∧ rr = .bool (tok x)
noncomputable def q_isToken : List A → Option A := kgr r_isToken
theorem k_isToken : KOk Try.prog (101, q_isToken) := kgr_ok (enters_of Try.func101 rfl rfl) (by rintro xs0 rr ⟨x, rfl, rfl⟩; exact isToken_ac x)
theorem e_isToken : ∀ (x : Int), q_isToken [.int .i64 x] = some (.bool (tok x)) := by
 intro x
 refine kgr_eq (fun xs0 rr r2 h h2 => ?_) ⟨x, rfl, rfl⟩
 obtain ⟨x1, e1, rfl⟩ := h; obtain ⟨x2, e2, rfl⟩ := h2
 rw [e1] at e2
 simp only [List.cons.injEq, A.int.injEq, A.bool.injEq, A.agg.injEq, A.row.injEq, A.fn.injEq, A.rp.injEq, insv_inj, iv_inj, true_and, and_true] at e2
 simp [e2]
theorem ok_l2Operands : Kn.ok Try.prog (kof [(73, q_l1In), (148, q_l1Token)]) := kof_cons k_l1In (kof_cons k_l1Token ((kof_nil _)))
theorem l2Operands_ac (i : Int) (o : Int) (l : List I4) (a : Int) (b : Int) (c : Int) (d : Int) (hc1 : 0 ≤ i) (hc2 : i ≤ 3) (hc3 : 0 ≤ o) (hc4 : o ≤ 3) : AC Try.prog 150 [.agg [.int .i64 i, .int .i64 o, .row false 4 (l.map insv)], .agg [.int .i64 a, .int .i64 b, .int .i64 c, .int .i64 d]] (.bool (opsOk i o l.length (a, b, c, d))) := by
 have e_l1In := e_l1In
 have e_l1Token := e_l1Token
 have hw1 : IntKind.i64.wrap (i - 1) = i - 1 := wrap64 (by omega) (by omega)
 have hw2 : IntKind.i64.wrap (o - 1) = o - 1 := wrap64 (by omega) (by omega)
 refine AC.of tab_ok Try.func150 rfl (Nat.le_of_ble_eq_true rfl) fun w0 S0 => ?_
 change G _ _ ⟨[(0, .agg [.int .i64 i, .int .i64 o, .row false 4 (l.map insv)]), (1, .agg [.int .i64 a, .int .i64 b, .int .i64 c, .int .i64 d])], [], 122⟩
 apply G.seq
 refine G.rg tab_ok ok_l2Operands (hk := ?_)
 apply G.seq
 refine G.rg tab_ok ok_l2Operands (hk := ?_)
 apply G.seq
 refine G.rg tab_ok ok_l2Operands (hk := ?_)
 apply G.seq
 apply G.seq
 refine G.rg tab_ok ok_l2Operands (hk := ?_)
 apply G.block
 apply G.seq
 refine G.fg [2, 3, 5, 6, 32] (hk := ?_)
 refine G.rg tab_ok ok_l2Operands (hk := ?_)
 refine G.iff (h1 := fun h1 => ?_) (h2 := fun h1 => ?_)
 ·try simp only [zqz] at h1
  apply G.seq
  refine G.rg tab_ok ok_l2Operands (hk := ?_)
  refine G.fin tab_ok (hr := ?_)
  simp [oneOrTup, opsOk, inR, *]
 ·try simp only [zqz] at h1
  apply G.seq
  refine G.rg tab_ok ok_l2Operands (hk := ?_)
  refine G.iff (h1 := fun h2 => ?_) (h2 := fun h2 => ?_)
  ·try simp only [zqz] at h2
   apply G.seq
   refine G.rg tab_ok ok_l2Operands (hk := ?_)
   refine G.fin tab_ok (hr := ?_)
   simp [oneOrTup, opsOk, inR, *]
  ·try simp only [zqz] at h2
   apply G.seq
   refine G.rg tab_ok ok_l2Operands (hk := ?_)
   refine G.iff (h1 := fun h3 => ?_) (h2 := fun h3 => ?_)
   ·try simp only [zqz] at h3
    apply G.seq
    refine G.rg tab_ok ok_l2Operands (hk := ?_)
    refine G.fin tab_ok (hr := ?_)
    simp [oneOrTup, opsOk, inR, *]
   ·try simp only [zqz] at h3
    apply G.seq
    apply G.seq
    refine G.rg tab_ok ok_l2Operands (hk := ?_)
    refine G.iff (h1 := fun h4 => ?_) (h2 := fun h4 => ?_)
    ·try simp only [zqz] at h4
     apply G.skip
     refine G.iffT (h1 := ?_)
     apply G.seq
     refine G.rg tab_ok ok_l2Operands (hk := ?_)
     refine G.fin tab_ok (hr := ?_)
     simp [oneOrTup, opsOk, inR, *]
    ·try simp only [zqz] at h4
     apply G.seq
     refine G.rg tab_ok ok_l2Operands (hk := ?_)
     refine G.fg [3, 5, 6, 32, 84] (hk := ?_)
     refine G.iff (h1 := fun h5 => ?_) (h2 := fun h5 => ?_)
     ·try simp only [zqz] at h5
      apply G.skip
      refine G.iffT (h1 := ?_)
      apply G.seq
      refine G.rg tab_ok ok_l2Operands (hk := ?_)
      refine G.fin tab_ok (hr := ?_)
      simp [oneOrTup, opsOk, inR, *]
     ·try simp only [zqz] at h5
      apply G.seq
      refine G.rg tab_ok ok_l2Operands (hk := ?_)
      refine G.iff (h1 := fun h6 => ?_) (h2 := fun h6 => ?_)
      ·try simp only [zqz] at h6
       apply G.skip
       refine G.iffT (h1 := ?_)
       apply G.seq
       refine G.rg tab_ok ok_l2Operands (hk := ?_)
       refine G.fin tab_ok (hr := ?_)
       simp [oneOrTup, opsOk, inR, *]
      ·try simp only [zqz] at h6
       refine G.rg tab_ok ok_l2Operands (hk := ?_)
       refine G.iff (h1 := fun h7 => ?_) (h2 := fun h7 => ?_)
       ·try simp only [zqz] at h7
        apply G.seq
        refine G.rg tab_ok ok_l2Operands (hk := ?_)
        refine G.fin tab_ok (hr := ?_)
        simp [oneOrTup, opsOk, inR, *]
       ·try simp only [zqz] at h7
        apply G.seq
        refine G.rg tab_ok ok_l2Operands (hk := ?_)
        refine G.iff (h1 := fun h8 => ?_) (h2 := fun h8 => ?_)
        ·try simp only [zqz] at h8
         apply G.seq
         refine G.rg tab_ok ok_l2Operands (hk := ?_)
         refine G.fin tab_ok (hr := ?_)
         simp [oneOrTup, opsOk, inR, *]
        ·try simp only [zqz] at h8
         apply G.seq
         apply G.seq
         refine G.rg tab_ok ok_l2Operands (hk := ?_)
         refine G.iff (h1 := fun h9 => ?_) (h2 := fun h9 => ?_)
         ·try simp only [zqz] at h9
          apply G.skip
          refine G.iffT (h1 := ?_)
          apply G.seq
          refine G.rg tab_ok ok_l2Operands (hk := ?_)
          refine G.fin tab_ok (hr := ?_)
          simp [oneOrTup, opsOk, inR, *]
         ·try simp only [zqz] at h9
          refine G.rg tab_ok ok_l2Operands (hk := ?_)
          refine G.fg [3, 6, 32, 98] (hk := ?_)
          refine G.iff (h1 := fun h10 => ?_) (h2 := fun h10 => ?_)
          ·try simp only [zqz] at h10
           apply G.seq
           refine G.rg tab_ok ok_l2Operands (hk := ?_)
           refine G.fin tab_ok (hr := ?_)
           simp [oneOrTup, opsOk, inR, *]
          ·try simp only [zqz] at h10
           apply G.seq
           refine G.rg tab_ok ok_l2Operands (hk := ?_)
           refine G.iff (h1 := fun h11 => ?_) (h2 := fun h11 => ?_)
           ·try simp only [zqz] at h11
            apply G.seq
            refine G.rg tab_ok ok_l2Operands (hk := ?_)
            refine G.fin tab_ok (hr := ?_)
            simp [oneOrTup, opsOk, inR, *]
           ·try simp only [zqz] at h11
            apply G.skip
            apply G.blk
            apply G.seq
            refine G.rg tab_ok ok_l2Operands (hk := ?_)
            refine G.fin tab_ok (hr := ?_)
            simp [oneOrTup, opsOk, inR, *]
def r_l2Operands (xs0 : List A) (rr : A) : Prop := ∃ (i : Int) (o : Int) (l : List I4) (a : Int) (b : Int) (c : Int) (d : Int), (0 ≤ i) ∧ (i ≤ 3) ∧ (0 ≤ o) ∧ (o ≤ 3) ∧ xs0 = [.agg [.int .i64 i, .int .i64 o, .row false 4 (l.map insv)], .agg [.int .i64 a, .int .i64 b, .int .i64 c, .int .i64 d]] ∧ rr = .bool (opsOk i o l.length (a, b, c, d))
noncomputable def q_l2Operands : List A → Option A := kgr r_l2Operands
theorem k_l2Operands : KOk Try.prog (150, q_l2Operands) := kgr_ok (enters_of Try.func150 rfl rfl) (by rintro xs0 rr ⟨i, o, l, a, b, c, d, hc1, hc2, hc3, hc4, rfl, rfl⟩; exact l2Operands_ac i o l a b c d hc1 hc2 hc3 hc4)
theorem e_l2Operands : ∀ (i : Int) (o : Int) (l : List I4) (a : Int) (b : Int) (c : Int) (d : Int), (0 ≤ i) → (i ≤ 3) → (0 ≤ o) → (o ≤ 3) → q_l2Operands [.agg [.int .i64 i, .int .i64 o, .row false 4 (l.map insv)], .agg [.int .i64 a, .int .i64 b, .int .i64 c, .int .i64 d]] = some (.bool (opsOk i o l.length (a, b, c, d))) := by
 intro i o l a b c d hc1 hc2 hc3 hc4
 refine kgr_eq (fun xs0 rr r2 h h2 => ?_) ⟨i, o, l, a, b, c, d, hc1, hc2, hc3, hc4, rfl, rfl⟩
 obtain ⟨i1, o1, l1, a1, b1, c1, d1, _, _, _, _, e1, rfl⟩ := h; obtain ⟨i2, o2, l2, a2, b2, c2, d2, _, _, _, _, e2, rfl⟩ := h2
 rw [e1] at e2
 simp only [List.cons.injEq, A.int.injEq, A.bool.injEq, A.agg.injEq, A.row.injEq, A.fn.injEq, A.rp.injEq, insv_inj, iv_inj, true_and, and_true] at e2
 simp [e2]
theorem ok_specIsProgram : Kn.ok Try.prog (kof [(73, q_l1In), (150, q_l2Operands)]) := kof_cons k_l1In (kof_cons k_l2Operands ((kof_nil _)))
theorem all_upto {l : List I4} {p : I4 → Bool} {i : Nat} (h : ∀ j < i, p (l.getD j default) = true) (h2 : p (l.getD i default) = true) : ∀ j < i + 1, p (l.getD j default) = true := by
 intro j hj
 by_cases e : j = i
 ·rw [e]; exact h2
 ·exact h j (by omega)
theorem all_all {l : List I4} {p : I4 → Bool} (h : ∀ j < l.length, p (l.getD j default) = true) : l.all p = true := by
 rw [List.all_eq_true]
 intro x hx
 obtain ⟨j, hj, rfl⟩ := List.getElem_of_mem hx
 simpa [hj] using h j hj
theorem not_all {l : List I4} {p : I4 → Bool} {j : Nat} (hj : j < l.length) (h : p (l.getD j default) = false) : l.all p = false := by
 rw [List.all_eq_false]
 refine ⟨l[j], List.getElem_mem hj, ?_⟩
 simpa [hj] using h
theorem specIsProgram_ac (i : Int) (o : Int) (l : List I4) (hc1 : l.length < 4398046511104) : AC Try.prog 80 [.agg [.int .i64 i, .int .i64 o, .row false 4 (l.map insv)]] (.bool (progOk i o l)) := by
 have e_l1In := e_l1In
 have e_l2Operands := e_l2Operands
 have hg : progOk i o l = ((inR i 0 3 && inR o 0 3 && inR l.length 1 24) && l.all (opsOk i o l.length)) := rfl
 refine AC.of tab_ok Try.func80 rfl (Nat.le_of_ble_eq_true rfl) fun w0 S0 => ?_
 change G _ _ ⟨[(0, .agg [.int .i64 i, .int .i64 o, .row false 4 (l.map insv)])], [], 34⟩
 apply G.seq
 refine G.rg tab_ok ok_specIsProgram (hk := ?_)
 apply G.seq
 apply G.seq
 refine G.rg tab_ok ok_specIsProgram (hk := ?_)
 refine G.fg [1, 21] (hk := ?_)
 refine G.iff (h1 := fun h1 => ?_) (h2 := fun h1 => ?_)
 ·try simp only [zqz] at h1
  apply G.seq
  refine G.rg tab_ok ok_specIsProgram (hk := ?_)
  refine G.fin tab_ok (hr := ?_)
  simp only [oneOrTup]
  congr 1
  symm
  rw [hg]
  rw [Bool.and_eq_false_iff]
  left
  rw [Bool.eq_false_iff]
  intro hh
  simp [inR] at h1 hh
  omega
 ·try simp only [zqz] at h1
  apply G.skip
  apply G.seq
  apply G.seq
  refine G.rg tab_ok ok_specIsProgram (hk := ?_)
  apply G.block
  have hpc : (inR i 0 3 && inR o 0 3 && inR l.length 1 24) = true := by rw [Bool.eq_iff_iff]; simp [inR] at h1 ⊢; omega
  have hpi : 0 ≤ i ∧ i ≤ 3 ∧ 0 ≤ o ∧ o ≤ 3 ∧ 1 ≤ (l.length : Int) ∧ (l.length : Int) ≤ 24 := by simp [inR] at hpc; omega
  obtain ⟨hi1, hi2, ho1, ho2, hn1, hn2⟩ := hpi
  refine G.cn [1, 23, 24, 25] [0] (h := ?_)
  refine G.loopX (fun j : Nat => ⟨[(1, .ptr 0 0 0), (23, .row false 4 (l.map insv)), (24, .int .i64 l.length), (25, .int .i64 j)], [some (3, [[.int .i64 i, .int .i64 o, .row false 4 (l.map insv)]])], 34⟩) (fun j => j ≤ l.length ∧ ∀ m < j, opsOk i o l.length (l.getD m default) = true) (fun j => l.length - j) (0) (⟨Nat.zero_le _, by omega⟩) (rfl) ?_
  intro j hj J hJ
  obtain ⟨hj, hall⟩ := hj
  have hw : IntKind.i64.wrap ((j : Int) + 1) = (j : Int) + 1 := wrap64 (by omega) (by omega)
  apply G.seq
  refine G.rg tab_ok ok_specIsProgram (hk := ?_)
  apply G.seq
  refine G.iff (h1 := fun h2 => ?_) (h2 := fun h2 => ?_)
  ·try simp only [zqz] at h2
   apply G.skip
   apply G.seq
   apply G.block
   apply G.seq
   refine G.rg tab_ok ok_specIsProgram (hk := ?_)
   apply G.seq
   refine G.rg tab_ok ok_specIsProgram (hk := ?_)
   refine G.fg [1, 23, 24, 25, 32] (hk := ?_)
   refine G.iff (h1 := fun h3 => ?_) (h2 := fun h3 => ?_)
   ·try simp only [zqz] at h3
    apply G.seq
    refine G.rg tab_ok ok_specIsProgram (hk := ?_)
    refine G.fin tab_ok (hr := ?_)
    simp only [oneOrTup]
    congr 1
    symm
    rw [hg, not_all (by omega) h3, Bool.and_false]
   ·try simp only [zqz] at h3
    apply G.skip
    apply G.blk
    refine G.rg tab_ok ok_specIsProgram (hk := ?_)
    refine G.cn [1, 23, 24, 25] [0] (h := ?_)
    exact G.upto (hJ (j + 1) ⟨by omega, all_upto hall h3⟩ (by omega)) (by simp)
  ·try simp only [zqz] at h2
   refine G.exit rfl ?_
   apply G.seq
   refine G.rg tab_ok ok_specIsProgram (hk := ?_)
   refine G.fin tab_ok (hr := ?_)
   simp only [oneOrTup]
   congr 1
   symm
   rw [hg, hpc, all_all (fun m hm => hall m (by omega)), Bool.and_true]
def r_specIsProgram (xs0 : List A) (rr : A) : Prop := ∃ (i : Int) (o : Int) (l : List I4), (l.length < 4398046511104) ∧ xs0 = [.agg [.int .i64 i, .int .i64 o, .row false 4 (l.map insv)]] ∧ rr = .bool (progOk i o l)
noncomputable def q_specIsProgram : List A → Option A := kgr r_specIsProgram
theorem k_specIsProgram : KOk Try.prog (80, q_specIsProgram) := kgr_ok (enters_of Try.func80 rfl rfl) (by rintro xs0 rr ⟨i, o, l, hc1, rfl, rfl⟩; exact specIsProgram_ac i o l hc1)
theorem e_specIsProgram : ∀ (i : Int) (o : Int) (l : List I4), (l.length < 4398046511104) → q_specIsProgram [.agg [.int .i64 i, .int .i64 o, .row false 4 (l.map insv)]] = some (.bool (progOk i o l)) := by
 intro i o l hc1
 refine kgr_eq (fun xs0 rr r2 h h2 => ?_) ⟨i, o, l, hc1, rfl, rfl⟩
 obtain ⟨i1, o1, l1, _, e1, rfl⟩ := h; obtain ⟨i2, o2, l2, _, e2, rfl⟩ := h2
 rw [e1] at e2
 simp only [List.cons.injEq, A.int.injEq, A.bool.injEq, A.agg.injEq, A.row.injEq, A.fn.injEq, A.rp.injEq, insv_inj, iv_inj, true_and, and_true] at e2
 simp [e2]
theorem ok_isInstr : Kn.ok Try.prog (kof [(186, q_isReg), (101, q_isToken)]) := kof_cons k_isReg (kof_cons k_isToken ((kof_nil _)))
theorem isInstr_ac (a : Int) (b : Int) (c : Int) (d : Int) (i : Int) (o : Int) (n : Int)  : AC Try.prog 160 [.agg [.int .i64 a, .int .i64 b, .int .i64 c, .int .i64 d], .int .i64 i, .int .i64 o, .int .i64 n] (.bool (opsOk i o n (a, b, c, d))) := by
 have e_isReg := e_isReg
 have e_isToken := e_isToken
 refine AC.of tab_ok Try.func160 rfl (Nat.le_of_ble_eq_true rfl) fun w0 S0 => ?_
 change G _ _ ⟨[(0, .agg [.int .i64 a, .int .i64 b, .int .i64 c, .int .i64 d]), (1, .int .i64 i), (2, .int .i64 o), (3, .int .i64 n)], [], 123⟩
 apply G.seq
 refine G.rg tab_ok ok_isInstr (hk := ?_)
 apply G.seq
 refine G.rg tab_ok ok_isInstr (hk := ?_)
 apply G.seq
 apply G.seq
 refine G.rg tab_ok ok_isInstr (hk := ?_)
 apply G.block
 apply G.seq
 refine G.rg tab_ok ok_isInstr (hk := ?_)
 refine G.fg [1, 2, 4, 9, 25, 26] (hk := ?_)
 refine G.iff (h1 := fun h1 => ?_) (h2 := fun h1 => ?_)
 ·try simp only [zqz] at h1
  apply G.seq
  refine G.rg tab_ok ok_isInstr (hk := ?_)
  refine G.fin tab_ok (hr := ?_)
  simp only [oneOrTup]
  congr 1
  rw [Bool.eq_iff_iff]
  simp [opsOk, inR, tok, *] <;> omega
 ·try simp only [zqz] at h1
  apply G.seq
  refine G.rg tab_ok ok_isInstr (hk := ?_)
  refine G.iff (h1 := fun h2 => ?_) (h2 := fun h2 => ?_)
  ·try simp only [zqz] at h2
   apply G.seq
   refine G.rg tab_ok ok_isInstr (hk := ?_)
   refine G.fin tab_ok (hr := ?_)
   simp only [oneOrTup]
   congr 1
   rw [Bool.eq_iff_iff]
   simp [opsOk, inR, tok, *] <;> omega
  ·try simp only [zqz] at h2
   apply G.seq
   refine G.rg tab_ok ok_isInstr (hk := ?_)
   refine G.iff (h1 := fun h3 => ?_) (h2 := fun h3 => ?_)
   ·try simp only [zqz] at h3
    apply G.seq
    refine G.rg tab_ok ok_isInstr (hk := ?_)
    refine G.fin tab_ok (hr := ?_)
    simp only [oneOrTup]
    congr 1
    rw [Bool.eq_iff_iff]
    simp [opsOk, inR, tok, *] <;> omega
   ·try simp only [zqz] at h3
    apply G.seq
    apply G.seq
    refine G.rg tab_ok ok_isInstr (hk := ?_)
    refine G.iff (h1 := fun h4 => ?_) (h2 := fun h4 => ?_)
    ·try simp only [zqz] at h4
     apply G.skip
     refine G.iffT (h1 := ?_)
     apply G.seq
     refine G.rg tab_ok ok_isInstr (hk := ?_)
     refine G.fin tab_ok (hr := ?_)
     simp only [oneOrTup]
     congr 1
     rw [Bool.eq_iff_iff]
     simp [opsOk, inR, tok, *] <;> omega
    ·try simp only [zqz] at h4
     apply G.seq
     refine G.rg tab_ok ok_isInstr (hk := ?_)
     refine G.iff (h1 := fun h5 => ?_) (h2 := fun h5 => ?_)
     ·try simp only [zqz] at h5
      apply G.skip
      refine G.iffT (h1 := ?_)
      apply G.seq
      refine G.rg tab_ok ok_isInstr (hk := ?_)
      refine G.fin tab_ok (hr := ?_)
      simp only [oneOrTup]
      congr 1
      rw [Bool.eq_iff_iff]
      simp [opsOk, inR, tok, *] <;> omega
     ·try simp only [zqz] at h5
      apply G.seq
      refine G.rg tab_ok ok_isInstr (hk := ?_)
      refine G.fg [4, 9, 25, 83] (hk := ?_)
      refine G.iff (h1 := fun h6 => ?_) (h2 := fun h6 => ?_)
      ·try simp only [zqz] at h6
       apply G.skip
       refine G.iffT (h1 := ?_)
       apply G.seq
       refine G.rg tab_ok ok_isInstr (hk := ?_)
       refine G.fin tab_ok (hr := ?_)
       simp only [oneOrTup]
       congr 1
       rw [Bool.eq_iff_iff]
       simp [opsOk, inR, tok, *] <;> omega
      ·try simp only [zqz] at h6
       refine G.rg tab_ok ok_isInstr (hk := ?_)
       refine G.iff (h1 := fun h7 => ?_) (h2 := fun h7 => ?_)
       ·try simp only [zqz] at h7
        apply G.seq
        refine G.rg tab_ok ok_isInstr (hk := ?_)
        refine G.fin tab_ok (hr := ?_)
        simp only [oneOrTup]
        congr 1
        rw [Bool.eq_iff_iff]
        simp [opsOk, inR, tok, *] <;> omega
       ·try simp only [zqz] at h7
        apply G.seq
        refine G.rg tab_ok ok_isInstr (hk := ?_)
        refine G.iff (h1 := fun h8 => ?_) (h2 := fun h8 => ?_)
        ·try simp only [zqz] at h8
         apply G.seq
         refine G.rg tab_ok ok_isInstr (hk := ?_)
         refine G.fin tab_ok (hr := ?_)
         simp only [oneOrTup]
         congr 1
         rw [Bool.eq_iff_iff]
         simp [opsOk, inR, tok, *] <;> omega
        ·try simp only [zqz] at h8
         apply G.seq
         apply G.seq
         refine G.rg tab_ok ok_isInstr (hk := ?_)
         refine G.iff (h1 := fun h9 => ?_) (h2 := fun h9 => ?_)
         ·try simp only [zqz] at h9
          apply G.skip
          refine G.iffT (h1 := ?_)
          apply G.seq
          refine G.rg tab_ok ok_isInstr (hk := ?_)
          refine G.fin tab_ok (hr := ?_)
          simp only [oneOrTup]
          congr 1
          rw [Bool.eq_iff_iff]
          simp [opsOk, inR, tok, *] <;> omega
         ·try simp only [zqz] at h9
          refine G.rg tab_ok ok_isInstr (hk := ?_)
          refine G.iff (h1 := fun h10 => ?_) (h2 := fun h10 => ?_)
          ·try simp only [zqz] at h10
           apply G.seq
           refine G.rg tab_ok ok_isInstr (hk := ?_)
           refine G.fin tab_ok (hr := ?_)
           simp only [oneOrTup]
           congr 1
           rw [Bool.eq_iff_iff]
           simp [opsOk, inR, tok, *] <;> omega
          ·try simp only [zqz] at h10
           apply G.seq
           refine G.rg tab_ok ok_isInstr (hk := ?_)
           refine G.fg [4, 118] (hk := ?_)
           refine G.iff (h1 := fun h11 => ?_) (h2 := fun h11 => ?_)
           ·try simp only [zqz] at h11
            apply G.seq
            refine G.rgN 2 tab_ok ok_isInstr (hk := ?_)
            refine G.opV (x := .bool (((11 : Int) == 11) && ((b == 0) && ((c == 0) && ((d == 0) && true))))) rfl (fun _ _ _ _ h => eqI h rfl rfl rfl) rfl ?_
            refine G.rgC tab_ok ok_isInstr (hk := ?_)
            refine G.fin tab_ok (hr := ?_)
            simp only [oneOrTup]
            congr 1
            rw [Bool.eq_iff_iff]
            simp [opsOk, inR, tok, *] <;> omega
           ·try simp only [zqz] at h11
            apply G.skip
            apply G.blk
            apply G.seq
            refine G.rg tab_ok ok_isInstr (hk := ?_)
            refine G.fin tab_ok (hr := ?_)
            simp only [oneOrTup]
            congr 1
            rw [Bool.eq_iff_iff]
            simp [opsOk, inR, tok, *] <;> omega
def r_isInstr (xs0 : List A) (rr : A) : Prop := ∃ (a : Int) (b : Int) (c : Int) (d : Int) (i : Int) (o : Int) (n : Int), xs0 = [.agg [.int .i64 a, .int .i64 b, .int .i64 c, .int .i64 d], .int .i64 i, .int .i64 o, .int .i64 n] ∧ rr = .bool (opsOk i o n (a, b, c, d))
noncomputable def q_isInstr : List A → Option A := kgr r_isInstr
theorem k_isInstr : KOk Try.prog (160, q_isInstr) := kgr_ok (enters_of Try.func160 rfl rfl) (by rintro xs0 rr ⟨a, b, c, d, i, o, n, rfl, rfl⟩; exact isInstr_ac a b c d i o n)
theorem e_isInstr : ∀ (a : Int) (b : Int) (c : Int) (d : Int) (i : Int) (o : Int) (n : Int), q_isInstr [.agg [.int .i64 a, .int .i64 b, .int .i64 c, .int .i64 d], .int .i64 i, .int .i64 o, .int .i64 n] = some (.bool (opsOk i o n (a, b, c, d))) := by
 intro a b c d i o n
 refine kgr_eq (fun xs0 rr r2 h h2 => ?_) ⟨a, b, c, d, i, o, n, rfl, rfl⟩
 obtain ⟨a1, b1, c1, d1, i1, o1, n1, e1, rfl⟩ := h; obtain ⟨a2, b2, c2, d2, i2, o2, n2, e2, rfl⟩ := h2
 rw [e1] at e2
 simp only [List.cons.injEq, A.int.injEq, A.bool.injEq, A.agg.injEq, A.row.injEq, A.fn.injEq, A.rp.injEq, insv_inj, iv_inj, true_and, and_true] at e2
 simp [e2]
theorem ok_isProgram1 : Kn.ok Try.prog (kof [(160, q_isInstr)]) := kof_cons k_isInstr ((kof_nil _))
theorem isProgram1_ac (a : Int) (b : Int) (c : Int) (d : Int) (i : Int) (o : Int) (l : List I4)  : AC Try.prog 159 [.agg [.int .i64 a, .int .i64 b, .int .i64 c, .int .i64 d], .rp 3 [[.int .i64 i, .int .i64 o, .row false 4 (l.map insv)]] 0 0] (.bool (!(opsOk i o l.length (a, b, c, d)))) := by
 have e_isInstr := e_isInstr
 refine AC.of tab_ok Try.func159 rfl (Nat.le_of_ble_eq_true rfl) fun w0 S0 => ?_
 change G _ _ ⟨[(0, .agg [.int .i64 a, .int .i64 b, .int .i64 c, .int .i64 d]), (1, .rp 3 [[.int .i64 i, .int .i64 o, .row false 4 (l.map insv)]] 0 0)], [], 14⟩
 apply G.seq
 refine G.rg tab_ok ok_isProgram1 (hk := ?_)
 apply G.seq
 refine G.rg tab_ok ok_isProgram1 (hk := ?_)
 refine G.fin tab_ok (hr := ?_)
 rfl
def r_isProgram1 (xs0 : List A) (rr : A) : Prop := ∃ (a : Int) (b : Int) (c : Int) (d : Int) (i : Int) (o : Int) (l : List I4), xs0 = [.agg [.int .i64 a, .int .i64 b, .int .i64 c, .int .i64 d], .rp 3 [[.int .i64 i, .int .i64 o, .row false 4 (l.map insv)]] 0 0] ∧ rr = .bool (!(opsOk i o l.length (a, b, c, d)))
noncomputable def q_isProgram1 : List A → Option A := kgr r_isProgram1
theorem k_isProgram1 : KOk Try.prog (159, q_isProgram1) := kgr_ok (enters_of Try.func159 rfl rfl) (by rintro xs0 rr ⟨a, b, c, d, i, o, l, rfl, rfl⟩; exact isProgram1_ac a b c d i o l)
theorem e_isProgram1 : ∀ (a : Int) (b : Int) (c : Int) (d : Int) (i : Int) (o : Int) (l : List I4), q_isProgram1 [.agg [.int .i64 a, .int .i64 b, .int .i64 c, .int .i64 d], .rp 3 [[.int .i64 i, .int .i64 o, .row false 4 (l.map insv)]] 0 0] = some (.bool (!(opsOk i o l.length (a, b, c, d)))) := by
 intro a b c d i o l
 refine kgr_eq (fun xs0 rr r2 h h2 => ?_) ⟨a, b, c, d, i, o, l, rfl, rfl⟩
 obtain ⟨a1, b1, c1, d1, i1, o1, l1, e1, rfl⟩ := h; obtain ⟨a2, b2, c2, d2, i2, o2, l2, e2, rfl⟩ := h2
 rw [e1] at e2
 simp only [List.cons.injEq, A.int.injEq, A.bool.injEq, A.agg.injEq, A.row.injEq, A.fn.injEq, A.rp.injEq, insv_inj, iv_inj, true_and, and_true] at e2
 simp [e2]
theorem ok_indexInstr : Kn.ok Try.prog (kof [(159, q_isProgram1)]) := kof_cons k_isProgram1 ((kof_nil _))
def idxOf (p : I4 → Bool) (l : List I4) : Int := match l.findIdx? p with
 | some i => i
 | none => -1
theorem idx_some {p : I4 → Bool} {l : List I4} {j : Nat} (hj : j < l.length) (hall : ∀ k < j, p (l.getD k default) = false) (h : p (l.getD j default) = true) : idxOf p l = j := by
 have : l.findIdx? p = some j := by
  rw [List.findIdx?_eq_some_iff_getElem]
  refine ⟨hj, by simpa [hj] using h, fun k hk => ?_⟩
  have hk2 : k < l.length := by omega
  simpa [hk2] using hall k hk
 unfold idxOf
 rw [this]
theorem idx_none {p : I4 → Bool} {l : List I4} (hall : ∀ k < l.length, p (l.getD k default) = false) : idxOf p l = -1 := by
 have : l.findIdx? p = none := by
  rw [List.findIdx?_eq_none_iff]
  intro x hx
  obtain ⟨k, hk, rfl⟩ := List.getElem_of_mem hx
  simpa [hk] using hall k hk
 unfold idxOf
 rw [this]
theorem none_upto {l : List I4} {p : I4 → Bool} {i : Nat} (h : ∀ j < i, p (l.getD j default) = false) (h2 : p (l.getD i default) = false) : ∀ j < i + 1, p (l.getD j default) = false := by
 intro j hj
 by_cases e : j = i
 ·rw [e]; exact h2
 ·exact h j (by omega)
theorem indexInstr_ac (l : List I4) (i : Int) (o : Int) (m : List I4) (hc1 : l.length < 4398046511104) : AC Try.prog 185 [.row false 4 (l.map insv), .fn 159 [.rp 3 [[.int .i64 i, .int .i64 o, .row false 4 (m.map insv)]] 0 0]] (.int .i64 (idxOf (fun x => !(opsOk i o m.length x)) l)) := by
 have e_isProgram1 := e_isProgram1
 refine AC.of tab_ok Try.func185 rfl (Nat.le_of_ble_eq_true rfl) fun w0 S0 => ?_
 change G _ _ ⟨[(0, .row false 4 (l.map insv)), (1, .fn 159 [.rp 3 [[.int .i64 i, .int .i64 o, .row false 4 (m.map insv)]] 0 0])], [], 19⟩
 apply G.seq
 refine G.rg tab_ok ok_indexInstr (hk := ?_)
 apply G.seq
 apply G.seq
 refine G.rg tab_ok ok_indexInstr (hk := ?_)
 apply G.block
 refine G.cn [0, 1, 7, 8] [] (h := ?_)
 refine G.loopX (fun j : Nat => ⟨[(0, .row false 4 (l.map insv)), (1, .fn 159 [.rp 3 [[.int .i64 i, .int .i64 o, .row false 4 (m.map insv)]] 0 0]), (7, .int .i64 l.length), (8, .int .i64 j)], [], 19⟩) (fun j => j ≤ l.length ∧ ∀ k < j, (fun x => !(opsOk i o m.length x)) (l.getD k default) = false) (fun j => l.length - j) (0) (⟨Nat.zero_le _, by omega⟩) (rfl) ?_
 intro j hj J hJ
 obtain ⟨hj, hall⟩ := hj
 have hw : IntKind.i64.wrap ((j : Int) + 1) = (j : Int) + 1 := wrap64 (by omega) (by omega)
 apply G.seq
 refine G.rg tab_ok ok_indexInstr (hk := ?_)
 apply G.seq
 refine G.iff (h1 := fun h1 => ?_) (h2 := fun h1 => ?_)
 ·try simp only [zqz] at h1
  apply G.skip
  apply G.seq
  apply G.block
  apply G.seq
  refine G.rg tab_ok ok_indexInstr (hk := ?_)
  apply G.seq
  refine G.rg tab_ok ok_indexInstr (hk := ?_)
  refine G.fg [0, 1, 5, 7, 8, 16] (hk := ?_)
  refine G.iff (h1 := fun h2 => ?_) (h2 := fun h2 => ?_)
  ·try simp only [zqz] at h2
   apply G.seq
   refine G.rg tab_ok ok_indexInstr (hk := ?_)
   refine G.fin tab_ok (hr := ?_)
   simp only [oneOrTup]
   congr 1
   exact (idx_some (p := fun x => !(opsOk i o m.length x)) h1 hall (by simp only [Bool.not_eq_true']; exact h2)).symm
  ·try simp only [zqz] at h2
   apply G.skip
   apply G.blk
   refine G.rg tab_ok ok_indexInstr (hk := ?_)
   refine G.cn [0, 1, 7, 8] [] (h := ?_)
   exact G.upto (hJ (j + 1) ⟨by omega, none_upto (p := fun x => !(opsOk i o m.length x)) hall (by simp only [Bool.not_eq_false']; exact h2)⟩ (by omega)) (by simp)
 ·try simp only [zqz] at h1
  refine G.exit rfl ?_
  apply G.seq
  refine G.rg tab_ok ok_indexInstr (hk := ?_)
  refine G.fin tab_ok (hr := ?_)
  simp only [oneOrTup]
  congr 1
  exact (idx_none (fun k hk => hall k (by omega))).symm
def r_indexInstr (xs0 : List A) (rr : A) : Prop := ∃ (l : List I4) (i : Int) (o : Int) (m : List I4), (l.length < 4398046511104) ∧ xs0 = [.row false 4 (l.map insv), .fn 159 [.rp 3 [[.int .i64 i, .int .i64 o, .row false 4 (m.map insv)]] 0 0]] ∧ rr = .int .i64 (idxOf (fun x => !(opsOk i o m.length x)) l)
noncomputable def q_indexInstr : List A → Option A := kgr r_indexInstr
theorem k_indexInstr : KOk Try.prog (185, q_indexInstr) := kgr_ok (enters_of Try.func185 rfl rfl) (by rintro xs0 rr ⟨l, i, o, m, hc1, rfl, rfl⟩; exact indexInstr_ac l i o m hc1)
theorem e_indexInstr : ∀ (l : List I4) (i : Int) (o : Int) (m : List I4), (l.length < 4398046511104) → q_indexInstr [.row false 4 (l.map insv), .fn 159 [.rp 3 [[.int .i64 i, .int .i64 o, .row false 4 (m.map insv)]] 0 0]] = some (.int .i64 (idxOf (fun x => !(opsOk i o m.length x)) l)) := by
 intro l i o m hc1
 refine kgr_eq (fun xs0 rr r2 h h2 => ?_) ⟨l, i, o, m, hc1, rfl, rfl⟩
 obtain ⟨l1, i1, o1, m1, _, e1, rfl⟩ := h; obtain ⟨l2, i2, o2, m2, _, e2, rfl⟩ := h2
 rw [e1] at e2
 simp only [List.cons.injEq, A.int.injEq, A.bool.injEq, A.agg.injEq, A.row.injEq, A.fn.injEq, A.rp.injEq, insv_inj, iv_inj, true_and, and_true] at e2
 simp [e2]
theorem ok_containsInstr : Kn.ok Try.prog (kof [(185, q_indexInstr)]) := kof_cons k_indexInstr ((kof_nil _))
theorem idx_pos (p : I4 → Bool) (l : List I4) : decide (idxOf (fun x => !(p x)) l ≥ 0) = !(l.all p) := by
 rw [Bool.eq_iff_iff]
 unfold idxOf
 cases h : l.findIdx? (fun x => !(p x)) with
 | none =>
  rw [List.findIdx?_eq_none_iff] at h
  have : l.all p = true := by rw [List.all_eq_true]; intro x hx; simpa using h x hx
  simp [this]
 | some j =>
  rw [List.findIdx?_eq_some_iff_getElem] at h
  obtain ⟨h1, h2, _⟩ := h
  have : l.all p = false := by rw [List.all_eq_false]; exact ⟨l[j], List.getElem_mem h1, by simpa using h2⟩
  simp [this]
theorem containsInstr_ac (l : List I4) (i : Int) (o : Int) (m : List I4) (hc1 : l.length < 4398046511104) : AC Try.prog 158 [.row false 4 (l.map insv), .fn 159 [.rp 3 [[.int .i64 i, .int .i64 o, .row false 4 (m.map insv)]] 0 0]] (.bool (!(l.all (opsOk i o m.length)))) := by
 have e_indexInstr := e_indexInstr
 refine AC.of tab_ok Try.func158 rfl (Nat.le_of_ble_eq_true rfl) fun w0 S0 => ?_
 change G _ _ ⟨[(0, .row false 4 (l.map insv)), (1, .fn 159 [.rp 3 [[.int .i64 i, .int .i64 o, .row false 4 (m.map insv)]] 0 0])], [], 9⟩
 apply G.seq
 refine G.rg tab_ok ok_containsInstr (hk := ?_)
 apply G.seq
 refine G.rg tab_ok ok_containsInstr (hk := ?_)
 refine G.fin tab_ok (hr := ?_)
 simp only [oneOrTup]
 congr 1
 exact idx_pos _ _
def r_containsInstr (xs0 : List A) (rr : A) : Prop := ∃ (l : List I4) (i : Int) (o : Int) (m : List I4), (l.length < 4398046511104) ∧ xs0 = [.row false 4 (l.map insv), .fn 159 [.rp 3 [[.int .i64 i, .int .i64 o, .row false 4 (m.map insv)]] 0 0]] ∧ rr = .bool (!(l.all (opsOk i o m.length)))
noncomputable def q_containsInstr : List A → Option A := kgr r_containsInstr
theorem k_containsInstr : KOk Try.prog (158, q_containsInstr) := kgr_ok (enters_of Try.func158 rfl rfl) (by rintro xs0 rr ⟨l, i, o, m, hc1, rfl, rfl⟩; exact containsInstr_ac l i o m hc1)
theorem e_containsInstr : ∀ (l : List I4) (i : Int) (o : Int) (m : List I4), (l.length < 4398046511104) → q_containsInstr [.row false 4 (l.map insv), .fn 159 [.rp 3 [[.int .i64 i, .int .i64 o, .row false 4 (m.map insv)]] 0 0]] = some (.bool (!(l.all (opsOk i o m.length)))) := by
 intro l i o m hc1
 refine kgr_eq (fun xs0 rr r2 h h2 => ?_) ⟨l, i, o, m, hc1, rfl, rfl⟩
 obtain ⟨l1, i1, o1, m1, _, e1, rfl⟩ := h; obtain ⟨l2, i2, o2, m2, _, e2, rfl⟩ := h2
 rw [e1] at e2
 simp only [List.cons.injEq, A.int.injEq, A.bool.injEq, A.agg.injEq, A.row.injEq, A.fn.injEq, A.rp.injEq, insv_inj, iv_inj, true_and, and_true] at e2
 simp [e2]
theorem ok_implIsProgram : Kn.ok Try.prog (kof [(158, q_containsInstr)]) := kof_cons k_containsInstr ((kof_nil _))
theorem implIsProgram_ac (i : Int) (o : Int) (l : List I4) (hc1 : l.length < 4398046511104) : AC Try.prog 94 [.agg [.int .i64 i, .int .i64 o, .row false 4 (l.map insv)]] (.bool (progOk i o l)) := by
 have e_containsInstr := e_containsInstr
 have hg : progOk i o l = ((inR i 0 3 && inR o 0 3 && inR l.length 1 24) && l.all (opsOk i o l.length)) := rfl
 refine AC.of tab_ok Try.func94 rfl (Nat.le_of_ble_eq_true rfl) fun w0 S0 => ?_
 change G _ _ ⟨[(0, .agg [.int .i64 i, .int .i64 o, .row false 4 (l.map insv)])], [], 38⟩
 apply G.seq
 refine G.rg tab_ok ok_implIsProgram (hk := ?_)
 apply G.seq
 apply G.seq
 refine G.rg tab_ok ok_implIsProgram (hk := ?_)
 refine G.fg [1, 32] (hk := ?_)
 refine G.iff (h1 := fun h1 => ?_) (h2 := fun h1 => ?_)
 ·try simp only [zqz] at h1
  apply G.seq
  refine G.rg tab_ok ok_implIsProgram (hk := ?_)
  refine G.fin tab_ok (hr := ?_)
  simp only [oneOrTup]
  congr 1
  symm
  rw [hg]
  rw [Bool.and_eq_false_iff]
  left
  rw [Bool.eq_false_iff]
  intro hh
  simp [inR] at h1 hh
  omega
 ·try simp only [zqz] at h1
  apply G.skip
  apply G.seq
  refine G.rg tab_ok ok_implIsProgram (hk := ?_)
  refine G.fin tab_ok (hr := ?_)
  have hpc : (inR i 0 3 && inR o 0 3 && inR l.length 1 24) = true := by rw [Bool.eq_iff_iff]; simp [inR] at h1 ⊢; omega
  simp only [oneOrTup]
  congr 1
  rw [hg, hpc, Bool.true_and, Bool.not_not]
def r_implIsProgram (xs0 : List A) (rr : A) : Prop := ∃ (i : Int) (o : Int) (l : List I4), (l.length < 4398046511104) ∧ xs0 = [.agg [.int .i64 i, .int .i64 o, .row false 4 (l.map insv)]] ∧ rr = .bool (progOk i o l)
noncomputable def q_implIsProgram : List A → Option A := kgr r_implIsProgram
theorem k_implIsProgram : KOk Try.prog (94, q_implIsProgram) := kgr_ok (enters_of Try.func94 rfl rfl) (by rintro xs0 rr ⟨i, o, l, hc1, rfl, rfl⟩; exact implIsProgram_ac i o l hc1)
theorem e_implIsProgram : ∀ (i : Int) (o : Int) (l : List I4), (l.length < 4398046511104) → q_implIsProgram [.agg [.int .i64 i, .int .i64 o, .row false 4 (l.map insv)]] = some (.bool (progOk i o l)) := by
 intro i o l hc1
 refine kgr_eq (fun xs0 rr r2 h h2 => ?_) ⟨i, o, l, hc1, rfl, rfl⟩
 obtain ⟨i1, o1, l1, _, e1, rfl⟩ := h; obtain ⟨i2, o2, l2, _, e2, rfl⟩ := h2
 rw [e1] at e2
 simp only [List.cons.injEq, A.int.injEq, A.bool.injEq, A.agg.injEq, A.row.injEq, A.fn.injEq, A.rp.injEq, insv_inj, iv_inj, true_and, and_true] at e2
 simp [e2]
end Go.Proofs.Ytimgfinlbhodhaa.Ab
