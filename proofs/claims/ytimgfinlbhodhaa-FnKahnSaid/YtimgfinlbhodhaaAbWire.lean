/- Networks that are drawn: pairs of numbers, guards that are known. -/
import Derived.Test.YtimgfinlbhodhaaAbOrdM
import Derived.Test.YtimgfinlbhodhaaFwGd
import Derived.Test.YtimgfinlbhodhaaAbFreeze
namespace Go.Proofs.Ytimgfinlbhodhaa.Ab
open Go
set_option linter.unusedVariables false
set_option linter.unusedSimpArgs false
def fv (x : Int × Int) : List A := [.row false 1 [[.int .i64 x.1], [.int .i64 x.2]]]
theorem fv_eq (x : Int × Int) : fv x = [.row false 1 [[.int .i64 x.1], [.int .i64 x.2]]] := rfl
theorem pureLL_fv (l : List (Int × Int)) : pureLL (l.map fv) = true := pureLL_all (fun _ => rfl) l
theorem roLL_fv (l : List (Int × Int)) : roLL (l.map fv) = l.map fv := roLL_to (fun _ => rfl) l
theorem copyable_fv (l : List (Int × Int)) : ((l.map fv).all fun y => y.all copyable) = true := by
 rw [List.all_eq_true]
 intro y hy
 obtain ⟨x, _, rfl⟩ := List.mem_map.1 hy
 rfl
section
variable {c : Cx} {k : List It} {st : St} {all : Array Oper} {o : Oper} {l : List Oper}
theorem G.want (hw : wantedA all st.env o = some true) (h : G c (.ops all ({ o with guard := none } :: l) :: k) st) : G c (.ops all (o :: l) :: k) st := by
 intro a w φ fs hr hb
 have h2 := h a w φ fs hr hb
 change wpList c.P all (cont c.P k c.Q) (o :: l) a w
 change wpList c.P all (cont c.P k c.Q) ({ o with guard := none } :: l) a w at h2
 simp only [wpList] at h2 ⊢
 rw [if_pos (wantedA_run hr hw)]
 rw [if_pos (by simp [Region.wanted])] at h2
 exact h2
theorem G.cellRo (m i j n : Nat) {sz sz' : Nat} {es es' : List (List A)} {e : List A} (hm : st.heap[m]? = some (some (sz, es))) (he : es[i]? = some e) {len : Nat} (hj : e[j]? = some (.sl n 0 len)) (hn : st.heap[n]? = some (some (sz', es'))) (hl : len = es'.length) (hne : m ≠ n) (hpu : pureLL es' = true) (hro : roLL es' = es')
  (h : G c k (withH st ((st.heap.set n none).set m (some (sz, es.set i (e.set j (.row false sz' es'))))))) : G c k st := by
 subst hl
 have hml : m < st.heap.length := (List.getElem?_eq_some_iff.1 hm).1
 have hil : i < es.length := (List.getElem?_eq_some_iff.1 he).1
 have hjl : j < e.length := (List.getElem?_eq_some_iff.1 hj).1
 refine G.unfocus m i j n (e := e) hm he hj hn hne (by simp) hpu ?_
 have e1 : ((es'.drop 0).take es'.length) = es' := by rw [List.drop_zero]; exact List.take_of_length_le (by simp)
 rw [e1]
 refine G.roCell m i j (sz := sz) (es := es.set i (e.set j (.row true sz' es'))) (e := e.set j (.row true sz' es')) (x := .row true sz' es') ?_ (by simp [hil]) (by simp [hjl]) ?_
 ·simp [withH, hml]
 ·have e3 : (es.set i (e.set j (A.row true sz' es'))).set i ((e.set j (A.row true sz' es')).set j (ro (A.row true sz' es'))) = es.set i (e.set j (.row false sz' es')) := by
   rw [List.set_set, List.set_set]
   have : ro (A.row true sz' es') = .row false sz' es' := by simp [ro, hro]
   rw [this]
  rw [e3]
  simpa [withH] using h
theorem G.lastRo {α : Type} (m q n : Nat) {sz : Nat} {f : α → List A} {l : List α} {e : List A} {tk : List Int} (x : α) (hm : st.heap[m]? = some (some (sz, l.map f ++ [e]))) (he : e[q]? = some (.sl n 0 tk.length)) (hn : st.heap[n]? = some (some (1, tk.map iv))) (hne : m ≠ n)
  (hx : e.set q (.row false 1 (tk.map iv)) = f x) (h : G c k (withH st ((st.heap.set n none).set m (some (sz, (l ++ [x]).map f))))) : G c k st := by
 have hml : m < st.heap.length := (List.getElem?_eq_some_iff.1 hm).1
 have hql : q < e.length := (List.getElem?_eq_some_iff.1 he).1
 refine G.unfocus m l.length q n (e := e) hm (by simp) he hn hne (by simp) (pureLL_iv tk) ?_
 have e1 : (((tk.map iv).drop 0).take tk.length) = tk.map iv := by rw [List.drop_zero]; exact List.take_of_length_le (by simp)
 rw [e1]
 have e2 : ∀ y : List A, (l.map f ++ [e]).set l.length y = l.map f ++ [y] := fun y => by rw [List.set_append_right _ _ (by simp)]; simp
 rw [e2]
 refine G.roCell m l.length q (sz := sz) (es := l.map f ++ [e.set q (.row true 1 (tk.map iv))]) (e := e.set q (.row true 1 (tk.map iv))) (x := .row true 1 (tk.map iv)) ?_ (by simp) (by simp [hql]) ?_
 ·simp [withH, hml]
 ·have e3 : (l.map f ++ [e.set q (A.row true 1 (tk.map iv))]).set l.length ((e.set q (A.row true 1 (tk.map iv))).set q (ro (A.row true 1 (tk.map iv)))) = (l ++ [x]).map f := by
   rw [List.set_append_right _ _ (by simp), List.set_set]
   have : ro (A.row true 1 (tk.map iv)) = .row false 1 (tk.map iv) := by simp [ro, roLL_iv]
   rw [this, hx]
   simp
  rw [e3]
  simpa [withH] using h
end
def sv (s : ByteArray) : List A := [.str s]
theorem sv_eq (s : ByteArray) : sv s = [.str s] := rfl
theorem pureLL_sv (l : List ByteArray) : pureLL (l.map sv) = true := pureLL_all (fun _ => rfl) l
def PO (ps : List PG) : Prop := ∀ x ∈ ps, progOk x.i x.o x.l = true
theorem po_nil : PO [] := by intro x hx; cases hx
theorem po_add {ps : List PG} {x : PG} (h : PO ps) (hx : progOk x.i x.o x.l = true) : PO (ps ++ [x]) := by
 intro y hy
 rcases List.mem_append.1 hy with hy | hy
 ·exact h y hy
 ·rw [List.mem_singleton] at hy; rw [hy]; exact hx
theorem prog_b {i o : Int} {l : List I4} (h : progOk i o l = true) : (0 ≤ i ∧ i ≤ 3) ∧ (0 ≤ o ∧ o ≤ 3) ∧ l.length ≤ 24 := by
 simp only [progOk, inR, Bool.and_eq_true, decide_eq_true_eq] at h
 omega
theorem po_nw {ps : List PG} (h : PO ps) : NW ps := fun x hx => by have := (prog_b (h x hx)).2.2; omega
def KS (ks : List LK) : Prop := ∀ x ∈ ks, x.tk.length ≤ 255
theorem ks_nil : KS [] := by intro x hx; cases hx
theorem ks_add {ks : List LK} {x : LK} (h : KS ks) (hx : x.tk.length ≤ 255) : KS (ks ++ [x]) := by
 intro y hy
 rcases List.mem_append.1 hy with hy | hy
 ·exact h y hy
 ·rw [List.mem_singleton] at hy; rw [hy]; exact hx
theorem ks_kw {ks : List LK} (h : KS ks) : KW ks := fun x hx => by have := h x hx; omega
end Go.Proofs.Ytimgfinlbhodhaa.Ab
