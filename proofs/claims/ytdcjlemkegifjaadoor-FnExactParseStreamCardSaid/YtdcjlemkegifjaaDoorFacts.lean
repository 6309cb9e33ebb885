/- The words at the head of the translation, and what follows from them: closed facts that every row of this seat asks for. -/
import Derived.Test.YtdcjlemkegifjaaDoorChecked
import Derived.JoinedOf
import Derived.KernelRfl
namespace Go.Proofs.YtdcjlemkegifjaaDoor.Facts
def cs (l : List Nat) : List Char := l.map Char.ofNat
theorem io : Tryd.checked.prog.initOrder = String.ofList (cs ([104, 97, 114, 110, 101, 115, 115] ++ 32 :: ([101, 97, 52, 98, 48, 98, 100, 55, 56, 56, 50, 50, 102, 57, 57, 56, 57, 54, 50, 100, 52, 53, 97, 52, 49, 53, 99, 51, 99, 52, 52, 100, 101, 101, 99, 98, 50, 50, 50, 56, 51, 49, 52, 101, 53, 56, 53, 55, 51, 50, 98, 101, 51, 55, 49, 97, 97, 97, 55, 57, 48, 53, 51, 49] ++ 32 :: ([99, 117, 116] ++ 32 :: [97, 116, 32, 108, 111, 111, 112, 46, 101, 120, 97, 109, 112, 108, 101, 47, 103, 48, 51, 50, 50, 52, 47, 108, 97, 119, 115, 46, 70, 110, 69, 120, 97, 99, 116, 70, 111, 114, 109, 97, 116, 83, 116, 114, 101, 97, 109, 32, 108, 111, 111, 112, 46, 101, 120, 97, 109, 112, 108, 101, 47, 103, 48, 51, 50, 50, 52, 47, 108, 97, 119, 115, 46, 70, 110, 69, 120, 97, 99, 116, 80, 97, 114, 115, 101, 83, 116, 114, 101, 97, 109])))) := by kernel_rfl
theorem cs_append (a b : List Nat) : cs (a ++ b) = cs a ++ cs b := by simp [cs]
theorem ws_word (w r : List Char) (h : w.all (fun c => c != Char.ofNat 32) = true) : wordsSigns (w ++ Char.ofNat 32 :: r) = w :: wordsSigns r := by
  induction w with
  | nil => rfl
  | cons c w ih =>
    simp only [List.all_cons, Bool.and_eq_true, bne_iff_ne, ne_eq] at h
    rw [List.cons_append, wordsSigns.eq_3 _ _ h.1, ih h.2]
def tail : List (List Char) := wordsSigns (cs [97, 116, 32, 108, 111, 111, 112, 46, 101, 120, 97, 109, 112, 108, 101, 47, 103, 48, 51, 50, 50, 52, 47, 108, 97, 119, 115, 46, 70, 110, 69, 120, 97, 99, 116, 70, 111, 114, 109, 97, 116, 83, 116, 114, 101, 97, 109, 32, 108, 111, 111, 112, 46, 101, 120, 97, 109, 112, 108, 101, 47, 103, 48, 51, 50, 50, 52, 47, 108, 97, 119, 115, 46, 70, 110, 69, 120, 97, 99, 116, 80, 97, 114, 115, 101, 83, 116, 114, 101, 97, 109])
theorem words : wordsSigns Tryd.checked.prog.initOrder.toList = cs [104, 97, 114, 110, 101, 115, 115] :: cs [101, 97, 52, 98, 48, 98, 100, 55, 56, 56, 50, 50, 102, 57, 57, 56, 57, 54, 50, 100, 52, 53, 97, 52, 49, 53, 99, 51, 99, 52, 52, 100, 101, 101, 99, 98, 50, 50, 50, 56, 51, 49, 52, 101, 53, 56, 53, 55, 51, 50, 98, 101, 51, 55, 49, 97, 97, 97, 55, 57, 48, 53, 51, 49] :: cs [99, 117, 116] :: tail := by
  rw [io, String.toList_ofList, cs_append, show ∀ l, cs (32 :: l) = Char.ofNat 32 :: cs l from fun _ => rfl, ws_word _ _ (by kernel_rfl), cs_append, show ∀ l, cs (32 :: l) = Char.ofNat 32 :: cs l from fun _ => rfl, ws_word _ _ (by kernel_rfl), cs_append, show ∀ l, cs (32 :: l) = Char.ofNat 32 :: cs l from fun _ => rfl, ws_word _ _ (by kernel_rfl)]
  rfl
theorem behind : behindMainWord (wordsSigns Tryd.checked.prog.initOrder.toList) = cs [99, 117, 116] :: tail := by
  rw [words]
  kernel_rfl
theorem strip (t : List (List Char)) : stripLifts liftWords (cs [99, 117, 116] :: t) = ([], cs [99, 117, 116] :: t) := by
  simp [stripLifts, liftWords, cs]
theorem headLifts_of (P : Program) (t : List (List Char)) (h : behindMainWord (wordsSigns P.initOrder.toList) = cs [99, 117, 116] :: t) : P.headLifts = [] := by
  unfold Program.headLifts
  rw [h, strip]
  simp
theorem mayEnter_of (P : Program) (t : List (List Char)) (h : behindMainWord (wordsSigns P.initOrder.toList) = cs [99, 117, 116] :: t) (h1 : P.laysLater = false) (h2 : P.bearsReflect = false) (h3 : P.doorFits [] = true) : P.mayEnter = true := by
  unfold Program.mayEnter
  rw [h]
  simp only [strip, h1, h2, h3]
  simp [cs]
theorem liftsFinal_of (P : Program) (t : List (List Char)) (h : behindMainWord (wordsSigns P.initOrder.toList) = cs [99, 117, 116] :: t) : P.liftsFinal = false := by
  unfold Program.liftsFinal
  rw [headLifts_of P t h, h]
  simp [cs]
theorem make_of (P : Program) (t : List (List Char)) (h : behindMainWord (wordsSigns P.initOrder.toList) = cs [99, 117, 116] :: t) : P.make = some .cut := by
  unfold Program.make
  rw [h]
  simp [cs]
theorem lays : Tryd.checked.prog.laysLater = false := by kernel_rfl
theorem refl : Tryd.checked.prog.bearsReflect = false := by kernel_rfl
theorem doors : Tryd.checked.prog.doorFits [] = true := by kernel_rfl
theorem mayEnter : Tryd.checked.prog.mayEnter = true := mayEnter_of _ tail behind lays refl doors
theorem liftsFinal : Tryd.checked.prog.liftsFinal = false := liftsFinal_of _ tail behind
theorem make : Tryd.checked.prog.make = some .cut := make_of _ tail behind
theorem laidOut : laidOutB Tryd.checked.prog = true := by kernel_rfl
theorem and_mk {a b : Bool} (h : a = true) (k : b = true) : (a && b) = true := by rw [h, k]; rfl
end Go.Proofs.YtdcjlemkegifjaaDoor.Facts
