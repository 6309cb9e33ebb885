/- The words at the head of the translation, and what follows from them: closed facts that every row of this seat asks for. -/
import Derived.Test.YtdcjlemkegifjaaGreatChecked
import Derived.JoinedOf
import Derived.KernelRfl
namespace Go.Proofs.YtdcjlemkegifjaaGreat.Facts
def cs (l : List Nat) : List Char := l.map Char.ofNat
theorem io : Tryz.checked.prog.initOrder = String.ofList (cs ([104, 97, 114, 110, 101, 115, 115] ++ 32 :: ([52, 54, 52, 50, 51, 56, 52, 48, 102, 48, 52, 49, 100, 100, 51, 101, 52, 52, 101, 100, 55, 100, 51, 102, 57, 53, 56, 102, 100, 99, 56, 99, 56, 100, 100, 57, 102, 102, 56, 56, 97, 55, 102, 57, 50, 52, 53, 52, 98, 48, 99, 100, 48, 54, 100, 98, 51, 54, 54, 101, 49, 50, 56, 52] ++ 32 :: ([99, 117, 116] ++ 32 :: [97, 116, 32, 108, 111, 111, 112, 46, 101, 120, 97, 109, 112, 108, 101, 47, 103, 48, 51, 50, 50, 52, 47, 108, 97, 119, 115, 46, 70, 110, 69, 120, 97, 99, 116, 83, 116, 101, 112, 78, 101, 116, 119, 111, 114, 107])))) := by kernel_rfl
theorem cs_append (a b : List Nat) : cs (a ++ b) = cs a ++ cs b := by simp [cs]
theorem ws_word (w r : List Char) (h : w.all (fun c => c != Char.ofNat 32) = true) : wordsSigns (w ++ Char.ofNat 32 :: r) = w :: wordsSigns r := by
  induction w with
  | nil => rfl
  | cons c w ih =>
    simp only [List.all_cons, Bool.and_eq_true, bne_iff_ne, ne_eq] at h
    rw [List.cons_append, wordsSigns.eq_3 _ _ h.1, ih h.2]
def tail : List (List Char) := wordsSigns (cs [97, 116, 32, 108, 111, 111, 112, 46, 101, 120, 97, 109, 112, 108, 101, 47, 103, 48, 51, 50, 50, 52, 47, 108, 97, 119, 115, 46, 70, 110, 69, 120, 97, 99, 116, 83, 116, 101, 112, 78, 101, 116, 119, 111, 114, 107])
theorem words : wordsSigns Tryz.checked.prog.initOrder.toList = cs [104, 97, 114, 110, 101, 115, 115] :: cs [52, 54, 52, 50, 51, 56, 52, 48, 102, 48, 52, 49, 100, 100, 51, 101, 52, 52, 101, 100, 55, 100, 51, 102, 57, 53, 56, 102, 100, 99, 56, 99, 56, 100, 100, 57, 102, 102, 56, 56, 97, 55, 102, 57, 50, 52, 53, 52, 98, 48, 99, 100, 48, 54, 100, 98, 51, 54, 54, 101, 49, 50, 56, 52] :: cs [99, 117, 116] :: tail := by
  rw [io, String.toList_ofList, cs_append, show ∀ l, cs (32 :: l) = Char.ofNat 32 :: cs l from fun _ => rfl, ws_word _ _ (by kernel_rfl), cs_append, show ∀ l, cs (32 :: l) = Char.ofNat 32 :: cs l from fun _ => rfl, ws_word _ _ (by kernel_rfl), cs_append, show ∀ l, cs (32 :: l) = Char.ofNat 32 :: cs l from fun _ => rfl, ws_word _ _ (by kernel_rfl)]
  rfl
theorem behind : behindMainWord (wordsSigns Tryz.checked.prog.initOrder.toList) = cs [99, 117, 116] :: tail := by
  rw [words]
  kernel_rfl
theorem strip (t : List (List Char)) : stripLifts liftWords (cs [99, 117, 116] :: t) = ([], cs [99, 117, 116] :: t) := by
  simp [stripLifts, liftWords, cs]
theorem headLifts_of (P : Program) (t : List (List Char)) (h : behindMainWord (wordsSigns P.initOrder.toList) = cs [99, 117, 116] :: t) : P.headLifts = [] := by
  unfold Program.headLifts
  rw [h, strip]
  simp
theorem mayEnter_of (P : Program) (t : List (List Char)) (h : behindMainWord (wordsSigns P.initOrder.toList) = cs [99, 117, 116] :: t) (h1 : P.laysLater = false) (h2 : P.bearsReflect = false) (h3 : P.doorFits [] = true) : P.mayEnter = true := by
  unfold Program.mayEnter
  rw [h]
  simp only [strip, h1, h2, h3]
  simp [cs]
theorem liftsFinal_of (P : Program) (t : List (List Char)) (h : behindMainWord (wordsSigns P.initOrder.toList) = cs [99, 117, 116] :: t) : P.liftsFinal = false := by
  unfold Program.liftsFinal
  rw [headLifts_of P t h, h]
  simp [cs]
theorem make_of (P : Program) (t : List (List Char)) (h : behindMainWord (wordsSigns P.initOrder.toList) = cs [99, 117, 116] :: t) : P.make = some .cut := by
  unfold Program.make
  rw [h]
  simp [cs]
theorem lays : Tryz.checked.prog.laysLater = false := by kernel_rfl
theorem refl : Tryz.checked.prog.bearsReflect = false := by kernel_rfl
theorem doors : Tryz.checked.prog.doorFits [] = true := by kernel_rfl
theorem mayEnter : Tryz.checked.prog.mayEnter = true := mayEnter_of _ tail behind lays refl doors
theorem liftsFinal : Tryz.checked.prog.liftsFinal = false := liftsFinal_of _ tail behind
theorem make : Tryz.checked.prog.make = some .cut := make_of _ tail behind
theorem laidOut : laidOutB Tryz.checked.prog = true := by kernel_rfl
theorem and_mk {a b : Bool} (h : a = true) (k : b = true) : (a && b) = true := by rw [h, k]; rfl
end Go.Proofs.YtdcjlemkegifjaaGreat.Facts
