/- Rounds that are counted; states put in order; lists of things in memory. -/
import Derived.Test.YtpdhoimpbiehkaaAbOrd2
namespace Go.Proofs.Ytpdhoimpbiehkaa.Ab
open Go
set_option linter.unusedVariables false
set_option linter.unusedSimpArgs false

section
variable {c : Cx} {k : List It} {st st' : St}
open Classical in
/-- Rounds of which each begins in a state of a family. -/
theorem G.loopX {α : Type} {body : Code} (s : α → St) (ok : α → Prop) (μ : α → Nat) (x0 : α) (h0 : ok x0) (hst : st = s x0)
    (round : ∀ x, ok x → ∀ J : Act → World → Prop, (∀ y, ok y → μ y < μ x → G c (.upto J :: k) (s y)) → G c (.code body :: .upto J :: k) (s x)) : G c (.code (.loop body) :: k) st := by
  let Ex : St → Nat → Prop := fun t n => ∃ x, ok x ∧ s x = t ∧ μ x = n
  let m : St → Nat := fun t => if h : ∃ n, Ex t n then Classical.choose (exists_min h) else 0
  refine G.loop (fun t => ∃ n, Ex t n) m ⟨μ x0, x0, h0, hst.symm, rfl⟩ ?_
  intro t ht J hJ
  have hm : m t = Classical.choose (exists_min ht) := dif_pos ht
  obtain ⟨⟨x, hx, ex, e1⟩, _⟩ := Classical.choose_spec (exists_min ht)
  rw [← ex]
  refine round x hx J fun y hy hlt => hJ (s y) ⟨μ y, y, hy, rfl, rfl⟩ ?_
  have h2 : ∃ n, Ex (s y) n := ⟨μ y, y, hy, rfl, rfl⟩
  have hm2 : m (s y) = Classical.choose (exists_min h2) := dif_pos h2
  have hle := (Classical.choose_spec (exists_min h2)).2 (μ y) ⟨y, hy, rfl, rfl⟩
  rw [hm, hm2, ← e1]
  omega
def pureAt (h : Heap) : List Nat → Bool
  | [] => true
  | m :: r => (match h[m]? with
    | some (some b) => pureLL b.2
    | _ => true) && pureAt h r
theorem pureAt_spec {h : Heap} {sel : List Nat} (hp : pureAt h sel = true) : ∀ m ∈ sel, ∀ sz es, h[m]? = some (some (sz, es)) → pureLL es = true := by
  induction sel with
  | nil => intro m hm; simp at hm
  | cons x r ih =>
    simp only [pureAt, Bool.and_eq_true] at hp
    intro m hm sz es he
    rcases List.mem_cons.1 hm with rfl | hm
    · have := hp.1; rw [he] at this; exact this
    · exact ih hp.2 m hm sz es he
def inOrder (live sel : List Nat) (st : St) : St := ⟨live.map fun i => (i, ren sel (look st.env i)), pick st.heap sel, st.n⟩
theorem G.canonS (live sel : List Nat) (hs : sel.Nodup) (hφ : c.φ0 = []) (hp : pureAt st.heap sel = true) (hc : inOrder live sel st = st') (h : G c k st') : G c k st :=
  G.canon live sel hs hφ (pureAt_spec hp) (by rw [← hc] at h; exact h)
theorem G.upto {J : Act → World → Prop} {st'' : St} (h : G c (.upto J :: k) st'') (e : st = st'') : G c (.upto J :: k) st := by rw [e]; exact h
end

/-! ### Lists of things -/
def iv (x : Int) : List A := [.int .i64 x]
theorem rd_map {α : Type} [Inhabited α] (f : α → List A) (l : List α) (i j n : Nat) : rdCells (l.map f) i j n = if i < l.length then (if (((f (l.getD i default)).drop j).take n).length = n ∧ n ≠ 0 then some (((f (l.getD i default)).drop j).take n) else none) else none := by
  unfold rdCells
  by_cases h : i < l.length
  · simp [h, List.getD_eq_getElem?_getD]
  · simp [h, List.getElem?_eq_none (Nat.not_lt.1 h)]
theorem rd_0 (e : List A) (es : List (List A)) (j n : Nat) : rdCells (e :: es) 0 j n = if ((e.drop j).take n).length = n ∧ n ≠ 0 then some ((e.drop j).take n) else none := rfl
theorem rd_s (e : List A) (es : List (List A)) (i j n : Nat) : rdCells (e :: es) (i + 1) j n = rdCells es i j n := rfl
theorem take_map_len {α : Type} (f : α → List A) (l : List α) : (l.map f).take l.length = l.map f := List.take_of_length_le (by simp)
theorem wrap64 {x : Int} (h1 : -9223372036854775808 ≤ x) (h2 : x ≤ 9223372036854775807) : IntKind.i64.wrap x = x := by
  simp [IntKind.wrap, IntKind.bits, IntKind.signed]
  omega
section
variable {α : Type}
theorem roLL_all {f : α → List A} (hf : ∀ x, roL (f x) = f x) (l : List α) : roLL (l.map f) = l.map f := by rw [roLL_map, List.map_map]; exact List.map_congr_left fun x _ => hf x
theorem pureLL_all {f : α → List A} (hf : ∀ x, pureL (f x) = true) (l : List α) : pureLL (l.map f) = true := by rw [pureLL_map, List.all_map, List.all_eq_true]; exact fun x _ => hf x
theorem noLoanLL_map (es : List (List A)) : noLoanLL es = es.all noLoanL := by
  induction es with
  | nil => rfl
  | cons a as ih => simp [noLoanLL, ih]
theorem noLoanLL_all {f : α → List A} (hf : ∀ x, noLoanL (f x) = true) (l : List α) : noLoanLL (l.map f) = true := by rw [noLoanLL_map, List.all_map, List.all_eq_true]; exact fun x _ => hf x
theorem pureLL_app (a b : List (List A)) : pureLL (a ++ b) = (pureLL a && pureLL b) := by simp [pureLL_map]
theorem pureLL_rep (n : Nat) (e : List A) : pureLL (List.replicate n e) = (Nat.beq n 0 || pureL e) := by
  cases n with
  | zero => rfl
  | succ n =>
    have : ∀ n, pureL e = true → pureLL (List.replicate n e) = true := fun n h => by rw [pureLL_map, List.all_eq_true]; intro x hx; rw [(List.mem_replicate.1 hx).2]; exact h
    cases h : pureL e with
    | true => simp [this _ h]
    | false =>
      have : Nat.beq (n + 1) 0 = false := rfl
      simp [List.replicate_succ, pureLL, h, this]
end
theorem roLL_iv (l : List Int) : roLL (l.map iv) = l.map iv := roLL_all (fun _ => rfl) l
theorem pureLL_iv (l : List Int) : pureLL (l.map iv) = true := pureLL_all (fun _ => rfl) l
theorem noLoanLL_iv (l : List Int) : noLoanLL (l.map iv) = true := noLoanLL_all (fun _ => rfl) l
theorem copyable_iv (l : List Int) : (l.map iv).all (fun y => y.all copyable) = true := by rw [List.all_map, List.all_eq_true]; exact fun x _ => rfl
/-- A block that is being filled. -/
def fillB {α : Type} (f : α → List A) (l : List α) (z : List A) (i : Nat) : List (List A) := (l.take i).map f ++ List.replicate (l.length - i) z
section
variable {α : Type} (f : α → List A) {l : List α} (z : List A) {i : Nat}
theorem fillB_len (h : i ≤ l.length) : (fillB f l z i).length = l.length := by simp [fillB]; omega
theorem fillB_get (h : i < l.length) : (fillB f l z i)[i]? = some z := by
  unfold fillB
  rw [List.getElem?_append_right (by simp; omega)]
  simp [show min i l.length = i by omega, List.getElem?_replicate, show 0 < l.length - i by omega]
theorem fillB_set [Inhabited α] (h : i < l.length) : (fillB f l z i).set i (f (l.getD i default)) = fillB f l z (i + 1) := by
  unfold fillB
  rw [List.set_append_right _ _ (by simp; omega)]
  have e : l.length - i = (l.length - (i + 1)) + 1 := by omega
  have hg : l[i]?.getD default = l[i] := by simp [h]
  simp only [List.length_map, List.length_take, show min i l.length = i by omega, Nat.sub_self, List.getD_eq_getElem?_getD, hg]
  rw [e, List.replicate_succ, List.set_cons_zero, List.take_succ_eq_append_getElem h]
  simp only [List.map_append, List.map_cons, List.map_nil, List.append_assoc, List.cons_append, List.nil_append]
theorem fillB_full : fillB f l z l.length = l.map f := by simp [fillB]
theorem fillB_zero : fillB f l z 0 = List.replicate l.length z := by simp [fillB]
theorem fillB_pure (hf : ∀ x, pureL (f x) = true) (hz : pureL z = true) : pureLL (fillB f l z i) = true := by
  unfold fillB
  rw [pureLL_app, pureLL_all hf, pureLL_rep, hz]
  simp
end

/-! ### What is known of a function, as a table -/
open Classical in
noncomputable def kgr (R : List A → A → Prop) : List A → Option A := fun args => if h : ∃ r, R args r then some (Classical.choose h) else none
theorem kgr_eq {R : List A → A → Prop} (hf : ∀ args r r', R args r → R args r' → r = r') {args : List A} {r : A} (h : R args r) : kgr R args = some r := by
  unfold kgr
  have he : ∃ r, R args r := ⟨r, h⟩
  rw [dif_pos he]
  rw [hf args _ _ (Classical.choose_spec he) h]
theorem kgr_ok {P : Program} {f : FuncId} {R : List A → A → Prop} (he : Enters P f) (h : ∀ args r, R args r → AC P f args r) : KOk P (f, kgr R) := by
  refine ⟨he, fun args r hr => ?_⟩
  simp only [kgr] at hr
  split at hr
  · rename_i hx
    injection hr with hr
    rw [← hr]
    exact h _ _ (Classical.choose_spec hx)
  · cases hr
theorem map_inj {α : Type} {f : α → List A} (hf : ∀ x y, f x = f y → x = y) {l l' : List α} (h : l.map f = l'.map f) : l = l' := by
  induction l generalizing l' with
  | nil => cases l' with
    | nil => rfl
    | cons y l' => simp at h
  | cons x l ih =>
    cases l' with
    | nil => simp at h
    | cons y l' =>
      simp only [List.map_cons, List.cons.injEq] at h
      rw [hf x y h.1, ih h.2]
theorem iv_inj {l l' : List Int} : l.map iv = l'.map iv ↔ l = l' := ⟨map_inj (fun x y h => by simpa [iv] using h), fun h => by rw [h]⟩
/-! ### Instructions and programs -/
abbrev I4 := Int × Int × Int × Int
def insv (x : I4) : List A := [.int .i64 x.1, .int .i64 x.2.1, .int .i64 x.2.2.1, .int .i64 x.2.2.2]
theorem insv_eq (x : I4) : insv x = [.int .i64 x.1, .int .i64 x.2.1, .int .i64 x.2.2.1, .int .i64 x.2.2.2] := rfl
theorem insv_inj {l l' : List I4} : l.map insv = l'.map insv ↔ l = l' := ⟨map_inj (fun x y h => by obtain ⟨a, b, c, d⟩ := x; obtain ⟨a', b', c', d'⟩ := y; simpa [insv] using h), fun h => by rw [h]⟩
theorem roLL_insv (l : List I4) : roLL (l.map insv) = l.map insv := roLL_all (fun _ => rfl) l
theorem pureLL_insv (l : List I4) : pureLL (l.map insv) = true := pureLL_all (fun _ => rfl) l
theorem noLoanLL_insv (l : List I4) : noLoanLL (l.map insv) = true := noLoanLL_all (fun _ => rfl) l
end Go.Proofs.Ytpdhoimpbiehkaa.Ab
