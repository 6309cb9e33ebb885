/- Networks that are drawn: pairs of numbers, guards that are known. -/
import Derived.Test.YtimgfinlbhodhaaAbOrdM
import Derived.Test.YtimgfinlbhodhaaFwGd
import Derived.Test.YtimgfinlbhodhaaAbFreeze
namespace Go.Proofs.Ytimgfinlbhodhaa.Ab
open Go
set_option linter.unusedVariables false
set_option linter.unusedSimpArgs false
def fv (x : Int × Int) : List A := [.row false 1 [[.int .i64 x.1], [.int .i64 x.2]]]
section
variable {c : Cx} {k : List It} {st : St} {all : Array Oper} {o : Oper} {l : List Oper}
theorem G.cellRo (m i j n : Nat) {sz sz' : Nat} {es es' : List (List A)} {e : List A} (hm : st.heap[m]? = some (some (sz, es))) (he : es[i]? = some e) {len : Nat} (hj : e[j]? = some (.sl n 0 len)) (hn : st.heap[n]? = some (some (sz', es'))) (hl : len = es'.length) (hne : m ≠ n) (hpu : pureLL es' = true) (hro : roLL es' = es')
    (h : G c k (withH st ((st.heap.set n none).set m (some (sz, es.set i (e.set j (.row false sz' es'))))))) : G c k st := by
  subst hl
  have hml : m < st.heap.length := (List.getElem?_eq_some_iff.1 hm).1
  have hil : i < es.length := (List.getElem?_eq_some_iff.1 he).1
  have hjl : j < e.length := (List.getElem?_eq_some_iff.1 hj).1
  refine G.unfocus m i j n (e := e) hm he hj hn hne (by simp) hpu ?_
  have e1 : ((es'.drop 0).take es'.length) = es' := by rw [List.drop_zero]; exact List.take_of_length_le (by simp)
  rw [e1]
  refine G.roCell m i j (sz := sz) (es := es.set i (e.set j (.row true sz' es'))) (e := e.set j (.row true sz' es')) (x := .row true sz' es') ?_ (by simp [hil]) (by simp [hjl]) ?_
  · simp [withH, hml]
  · have e3 : (es.set i (e.set j (A.row true sz' es'))).set i ((e.set j (A.row true sz' es')).set j (ro (A.row true sz' es'))) = es.set i (e.set j (.row false sz' es')) := by
      rw [List.set_set, List.set_set]
      have : ro (A.row true sz' es') = .row false sz' es' := by simp [ro, hro]
      rw [this]
    rw [e3]
    simpa [withH] using h
end
end Go.Proofs.Ytimgfinlbhodhaa.Ab
