/- What data of a type are to the walks: values that are read alone. -/
import Derived.Test.YtpdhoimpbiehkaaAbMach4
import Derived.ChangeSlices
import Derived.ChangeArms
import Derived.ChangeOld
import Derived.SizedLaws
namespace Go.Proofs.Ytpdhoimpbiehkaa.Ab
open Go
set_option linter.unusedVariables false
set_option linter.unusedSimpArgs false

/-- A cell of a type. -/
inductive TC where
  | int (k : IntKind)
  | bool
  | row (sz by_ : Nat) (cells : List TC)
mutual
/-- A value of that cell: a row's weight is bounded. -/
def Typed (B : Nat) : TC → A → Prop
  | .int k, a => ∃ n, a = .int k n ∧ (Lit.int k n).wf = true
  | .bool, a => ∃ b, a = .bool b
  | .row sz by_ cs, a => ∃ es, a = .row false sz es ∧ es.length * by_ ≤ B ∧ ∀ e ∈ es, TypedL B cs e
def TypedL (B : Nat) : List TC → List A → Prop
  | [], as => as = []
  | c :: cs, as => ∃ a r, as = a :: r ∧ Typed B c a ∧ TypedL B cs r
end
theorem TypedL.len {B : Nat} : ∀ {cs : List TC} {as : List A}, TypedL B cs as → as.length = cs.length
  | [], as, h => by simp only [TypedL] at h; simp [h]
  | c :: cs, as, h => by
    simp only [TypedL] at h
    obtain ⟨a, r, rfl, _, h⟩ := h
    simp [TypedL.len h]
theorem TypedL.append {B : Nat} : ∀ {cs ds : List TC} {as bs : List A}, TypedL B cs as → TypedL B ds bs → TypedL B (cs ++ ds) (as ++ bs)
  | [], ds, as, bs, h, k => by simp only [TypedL] at h; subst h; exact k
  | c :: cs, ds, as, bs, h, k => by
    simp only [TypedL] at h
    obtain ⟨a, r, rfl, h1, h⟩ := h
    exact ⟨a, r ++ bs, rfl, h1, TypedL.append h k⟩

/-- A type's cells. -/
def flatF (P : Program) (go : TypeId → Option (List TC)) : Nat → List Field → Option (List TC)
  | _, [] => some []
  | off, f :: fs => match go f.type with
    | some cs => if f.offset = off ∧ cs.length = P.cellsOf f.type then (flatF P go (off + cs.length) fs).map (cs ++ ·) else none
    | none => none
def flat (P : Program) : Nat → TypeId → Option (List TC)
  | 0, _ => none
  | d + 1, t => match P.underlying t with
    | some (.int k) => some [.int k]
    | some .bool => some [.bool]
    | some (.slice e) => match flat P d e with
      | some cs => if cs.length = P.cellsOf e then some [.row (P.cellsOf e) (P.bytesOf e) cs] else none
      | none => none
    | some (.struct fs) => match flatF P (flat P d) 0 fs.toList with
      | some cs => if cs.length = P.cellsOf t then some cs else none
      | none => none
    | _ => none

section
variable {H : Type} {enc : TypeId × Value → H} {P : Program} {w : World} {base : Nat} {spare : Nat → Bool} {held : Bool} {B : Nat}
theorem weights_slice {t e : TypeId} {xs ys : List (DataW H)} (hu : P.underlying t = some (.slice e)) (h : ((DataW.slice xs ys).weights P t).all (· ≤ B) = true) : (xs.length + ys.length) * P.bytesOf e ≤ B ∧ (DataW.weightsAll P e xs).all (· ≤ B) = true := by
  unfold DataW.weights at h
  simp only [hu, List.all_cons, List.all_append, Bool.and_eq_true, decide_eq_true_eq] at h
  exact ⟨h.1, h.2.1⟩
theorem weights_all {e : TypeId} {xs : List (DataW H)} (h : (DataW.weightsAll P e xs).all (· ≤ B) = true) : ∀ x ∈ xs, (x.weights P e).all (· ≤ B) = true := by
  induction xs with
  | nil => simp
  | cons x xs ih =>
    unfold DataW.weightsAll at h
    simp only [List.all_append, Bool.and_eq_true] at h
    intro y hy
    rcases List.mem_cons.1 hy with rfl | hy
    · exact h.1
    · exact ih h.2 y hy
theorem weights_each {ts : List TypeId} {ds : List (DataW H)} (h : (DataW.weightsEach P ts ds).all (· ≤ B) = true) : ∀ (i : Nat) t d, ts[i]? = some t → ds[i]? = some d → (d.weights P t).all (· ≤ B) = true := by
  induction ts generalizing ds with
  | nil => intro i t d h1; simp at h1
  | cons t ts ih =>
    cases ds with
    | nil => intro i t d _ h2; simp at h2
    | cons d ds =>
      unfold DataW.weightsEach at h
      simp only [List.all_append, Bool.and_eq_true] at h
      intro i t' d' h1 h2
      cases i with
      | zero => simp at h1 h2; subst h1 h2; exact h.1
      | succ i => exact ih h.2 i t' d' (by simpa using h1) (by simpa using h2)
/-- Rows that are read one by one are read as a whole. -/
theorem rows_read {sz : Nat} {ad : Addr} (hsz : True) : ∀ (len i0 : Nat) (css : List (List Value)) (ess : List (List A)), css.length = len → ess.length = len → (∀ i, i < len → ∀ cs, css[i]? = some cs → cs.length = sz ∧ ∀ j v, cs[j]? = some v → w.cell? (ad.add ((i0 + i) * sz + j)) = some v) →
    (∀ i, i < len → ∀ cs es, css[i]? = some cs → ess[i]? = some es → RelL w (fun _ => False) [] es cs []) →
    RelL w (fun _ => False) [] ess.flatten css.flatten [] ∧ ∀ k v, css.flatten[k]? = some v → w.cell? (ad.add (i0 * sz + k)) = some v := by
  intro len
  induction len with
  | zero =>
    intro i0 css ess h1 h2 _ _
    have := List.length_eq_zero_iff.1 h1
    have := List.length_eq_zero_iff.1 h2
    subst_vars
    exact ⟨.nil, fun k v hk => by simp at hk⟩
  | succ len ih =>
    intro i0 css ess h1 h2 hc hr
    obtain ⟨c, css, rfl⟩ : ∃ c cs, css = c :: cs := by cases css with | nil => simp at h1 | cons c cs => exact ⟨c, cs, rfl⟩
    obtain ⟨e, ess, rfl⟩ : ∃ c cs, ess = c :: cs := by cases ess with | nil => simp at h2 | cons c cs => exact ⟨c, cs, rfl⟩
    obtain ⟨hl, h0⟩ := hc 0 (by omega) c rfl
    obtain ⟨g1, g2⟩ := ih (i0 + 1) css ess (by simpa using h1) (by simpa using h2) (fun i hi cs hcs => by
        have := hc (i + 1) (by omega) cs (by simpa using hcs)
        rw [show i0 + 1 + i = i0 + (i + 1) by omega]
        exact this) (fun i hi cs es hcs hes => hr (i + 1) (by omega) cs es (by simpa using hcs) (by simpa using hes))
    refine ⟨?_, ?_⟩
    · rw [List.flatten_cons, List.flatten_cons]
      exact (hr 0 (by omega) c e rfl rfl).append (f := []) (g := []) g1
    · intro k v hk
      rw [List.flatten_cons] at hk
      by_cases hlt : k < c.length
      · rw [List.getElem?_append_left hlt] at hk
        simpa using h0 k v hk
      · rw [List.getElem?_append_right (by omega)] at hk
        have := g2 (k - c.length) v hk
        rw [show i0 * sz + k = (i0 + 1) * sz + (k - c.length) by rw [Nat.add_mul]; omega]
        exact this
theorem trod_rel : ∀ (d : Nat) (t : TypeId) (codes : List TC), flat P d t = some codes → ∀ (n : Nat) (vs : List Value) (x : DataW H × List MemPlace), DataW.trod enc P w base spare held n t vs = some x → (x.1.weights P t).all (· ≤ B) = true →
    ∃ as, RelL w (fun _ => False) [] as vs [] ∧ TypedL B codes as := by
  intro d
  induction d with
  | zero => intro t codes h; simp [flat] at h
  | succ d ih =>
    intro t codes hf n vs x hx hw
    unfold flat at hf
    split at hf
    · rename_i k hu
      injection hf with hf
      subst hf
      obtain ⟨m, rfl, rfl, hm⟩ := DataW.trod_int hu hx
      exact ⟨[.int k m], .cons (f := []) (fs := []) (.int _ _) .nil, ⟨_, _, rfl, ⟨m, rfl, hm⟩, rfl⟩⟩
    · rename_i hu
      injection hf with hf
      subst hf
      cases n with
      | zero => simp [DataW.trod] at hx
      | succ n =>
        unfold DataW.trod at hx
        rw [hu] at hx
        split at hx <;> simp_all
        exact ⟨[.bool _], .cons (f := []) (fs := []) (.bool _) .nil, ⟨_, _, rfl, ⟨_, rfl⟩, rfl⟩⟩
    · rename_i e hu
      split at hf
      · rename_i cs hcs
        split at hf
        · rename_i hlen
          injection hf with hf
          subst hf
          rcases DataW.trod_slice hu hx with ⟨rfl, rfl⟩ | ⟨a, len, cap, elems, rest, m, rfl, rfl, rfl, hb, hl, hcap, hel, hget, _, _⟩
          · exact ⟨[.row false (P.cellsOf e) []], .cons (f := []) (fs := []) (.ro0 _ _ _) .nil, ⟨_, _, rfl, ⟨[], rfl, by simp, by simp⟩, rfl⟩⟩
          · obtain ⟨hw1, hw2⟩ := weights_slice hu hw
            have hw3 := weights_all hw2
            have each : ∀ i, i < len → ∃ vs, w.cells? base (a.add (i * P.cellsOf e)) (P.cellsOf e) = some vs ∧ ∃ as, RelL w (fun _ => False) [] as vs [] ∧ TypedL B cs as := by
              intro i hi
              have hg := hget i hi
              have hi2 : i < elems.length := by omega
              rw [List.getElem?_eq_getElem hi2, Option.bind_eq_some_iff] at hg
              obtain ⟨vs, h1, h2⟩ := hg
              exact ⟨vs, h1, ih e cs hcs m vs _ h2 (hw3 _ (by simp only [List.mem_map]; exact ⟨_, List.getElem_mem hi2, rfl⟩))⟩
            have ech : ∀ L, (∀ i, i < L → ∃ vs, w.cells? base (a.add (i * P.cellsOf e)) (P.cellsOf e) = some vs ∧ ∃ as, RelL w (fun _ => False) [] as vs [] ∧ TypedL B cs as) →
                ∃ (css : List (List Value)) (ess : List (List A)), css.length = L ∧ ess.length = L ∧ ∀ i, i < L → ∃ c s, css[i]? = some c ∧ ess[i]? = some s ∧ w.cells? base (a.add (i * P.cellsOf e)) (P.cellsOf e) = some c ∧ RelL w (fun _ => False) [] s c [] ∧ TypedL B cs s := by
              intro L
              induction L with
              | zero => intro _; exact ⟨[], [], rfl, rfl, by intro i hi; omega⟩
              | succ L ihl =>
                intro hea
                obtain ⟨css, ess, l1, l2, hh⟩ := ihl (fun i hi => hea i (by omega))
                obtain ⟨c, hc, s, h1, h2⟩ := hea L (by omega)
                refine ⟨css ++ [c], ess ++ [s], by simp [l1], by simp [l2], fun i hi => ?_⟩
                by_cases hlt : i < L
                · obtain ⟨c', s', g1, g2, g3⟩ := hh i hlt
                  exact ⟨c', s', by rw [List.getElem?_append_left (by omega)]; exact g1, by rw [List.getElem?_append_left (by omega)]; exact g2, g3⟩
                · have : i = L := by omega
                  subst this
                  exact ⟨c, s, by rw [List.getElem?_append_right (by omega)]; simp [l1], by rw [List.getElem?_append_right (by omega)]; simp [l2], hc, h1, h2⟩
            obtain ⟨css, ess, l1, l2, hh⟩ := ech len each
            have hty : ∀ s ∈ ess, TypedL B cs s := by
              intro s hs
              obtain ⟨i, hi, rfl⟩ := List.getElem_of_mem hs
              obtain ⟨c, s', _, g2, _, _, g5⟩ := hh i (by omega)
              rw [List.getElem?_eq_getElem hi] at g2
              injection g2 with g2
              rw [g2]; exact g5
            have hrr := rows_read (w := w) (sz := P.cellsOf e) (ad := a) trivial len 0 css ess l1 l2 (fun i hi c hc => by
                obtain ⟨c', s', g1, _, g3, _, _⟩ := hh i hi
                rw [g1] at hc
                injection hc with hc
                subst hc
                obtain ⟨_, q1, q2⟩ := World.cells?_some g3
                refine ⟨q1, fun j v hj => ?_⟩
                have hjl : j < P.cellsOf e := by rw [← q1]; exact (List.getElem?_eq_some_iff.1 hj).1
                have := q2 j hjl
                rw [add_add] at this
                rw [Nat.zero_add, this, hj]) (fun i hi c s hc hs => by
                obtain ⟨c', s', g1, g2, _, g4, _⟩ := hh i hi
                rw [g1] at hc
                rw [g2] at hs
                injection hc with hc
                injection hs with hs
                subst hc hs
                exact g4)
            refine ⟨[.row false (P.cellsOf e) ess], .cons (f := []) (fs := []) ?_ .nil, ⟨_, _, rfl, ⟨ess, rfl, ?_, hty⟩, rfl⟩⟩
            · have := Rel.ro (w := w) (S := fun _ => False) (φ := []) (es := ess) (ad := a) (cap := cap) (sz := P.cellsOf e) (fun s hs => by rw [(hty s hs).len, hlen]) hrr.1 (fun k v hk => ⟨by simpa using hrr.2 k v hk, fun h => h⟩) (by omega)
              rw [l2] at this
              exact this
            · rw [l2, ← hel]
              simp only [List.length_map] at hw1
              exact Nat.le_trans (Nat.mul_le_mul_right _ (by omega)) hw1
        · cases hf
      · cases hf
    · rename_i fs hu
      split at hf
      · rename_i cs hcs
        split at hf
        · rename_i hlen
          injection hf with hf
          subst hf
          obtain ⟨xs, m, rfl, rfl, hl, hxl, hget⟩ := DataW.trod_struct hu hx
          have hwf : ∀ (i : Nat) t d, (fs.toList.map (·.type))[i]? = some t → (xs.map (·.1))[i]? = some d → (d.weights P t).all (· ≤ B) = true := by
            unfold DataW.weights at hw
            simp only [hu] at hw
            exact weights_each hw
          -- field after field
          have go : ∀ (l : List Field) (i off : Nat) (cs : List TC), (∀ j, l[j]? = fs[i + j]?) → flatF P (flat P d) off l = some cs → off + cs.length ≤ vs.length → ∃ as, RelL w (fun _ => False) [] as ((vs.drop off).take cs.length) [] ∧ TypedL B cs as := by
            intro l
            induction l with
            | nil =>
              intro i off cs _ hc _
              simp only [flatF, Option.some.injEq] at hc
              subst hc
              exact ⟨[], by simpa using RelL.nil, rfl⟩
            | cons f l ihl =>
              intro i off cs hj hc hle
              simp only [flatF] at hc
              split at hc
              · rename_i c1 hc1
                split at hc
                · rename_i hcond
                  obtain ⟨ho, hcl⟩ := hcond
                  obtain ⟨c2, hc2, rfl⟩ := Option.map_eq_some_iff.1 hc
                  have hfi : fs[i]? = some f := by have := hj 0; simpa using this.symm
                  have hg := hget i f hfi
                  have hil : i < xs.length := by rw [hxl]; exact (Array.getElem?_eq_some_iff.1 hfi).1
                  rw [List.getElem?_eq_getElem hil] at hg
                  obtain ⟨as1, r1, t1⟩ := ih f.type c1 hc1 m _ _ hg (hwf i f.type _ (by simp [hfi]) (by simp [hil]))
                  simp only [List.length_append] at hle
                  obtain ⟨as2, r2, t2⟩ := ihl (i + 1) (off + c1.length) c2 (fun j => by have := hj (j + 1); simpa [Nat.add_assoc, Nat.add_comm 1 j] using this) hc2 (by omega)
                  refine ⟨as1 ++ as2, ?_, t1.append t2⟩
                  rw [ho, ← hcl] at r1
                  have e : (vs.drop off).take (c1 ++ c2).length = (vs.drop off).take c1.length ++ (vs.drop (off + c1.length)).take c2.length := by
                    rw [List.length_append, List.take_add, List.drop_drop]
                  rw [e]
                  exact r1.append (f := []) (g := []) r2
                · cases hc
              · cases hc
          obtain ⟨as, r, ty⟩ := go fs.toList 0 0 cs (fun j => by simp) hcs (by omega)
          refine ⟨as, ?_, ty⟩
          have e : (vs.drop 0).take cs.length = vs := by rw [List.drop_zero, List.take_of_length_le (by omega)]
          rw [e] at r
          exact r
        · cases hf
      · cases hf
    · cases hf
end
end Go.Proofs.Ytpdhoimpbiehkaa.Ab
