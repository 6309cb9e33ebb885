/- The words at the head of the translation, and what follows from them: closed facts that every row of this seat asks for. -/
import Derived.Test.YtimgfinlbhodhaaChecked
import Derived.JoinedOf
import Derived.KernelRfl
namespace Go.Proofs.Ytimgfinlbhodhaa.Facts
def cs (l : List Nat) : List Char := l.map Char.ofNat
theorem io : Try.checked.prog.initOrder = String.ofList (cs ([104, 97, 114, 110, 101, 115, 115] ++ 32 :: ([50, 97, 51, 55, 100, 100, 54, 97, 52, 51, 55, 97, 97, 97, 52, 57, 102, 51, 57, 49, 54, 55, 56, 48, 56, 54, 51, 51, 51, 102, 55, 56, 48, 56, 56, 50, 101, 51, 49, 102, 101, 55, 101, 51, 101, 100, 54, 54, 52, 97, 97, 102, 56, 100, 98, 97, 57, 97, 48, 48, 53, 54, 97, 101] ++ 32 :: ([99, 117, 116] ++ 32 :: [97, 116, 32, 108, 111, 111, 112, 46, 101, 120, 97, 109, 112, 108, 101, 47, 103, 48, 51, 50, 50, 52, 47, 108, 97, 119, 115, 46, 70, 110, 75, 101, 112, 116, 32, 108, 111, 111, 112, 46, 101, 120, 97, 109, 112, 108, 101, 47, 103, 48, 51, 50, 50, 52, 47, 108, 97, 119, 115, 46, 70, 110, 75, 97, 104, 110, 32, 108, 111, 111, 112, 46, 101, 120, 97, 109, 112, 108, 101, 47, 103, 48, 51, 50, 50, 52, 47, 108, 97, 119, 115, 46, 70, 110, 80, 114, 111, 99, 101, 115, 115, 32, 108, 111, 111, 112, 46, 101, 120, 97, 109, 112, 108, 101, 47, 103, 48, 51, 50, 50, 52, 47, 108, 97, 119, 115, 46, 70, 110, 69, 120, 97, 99, 116, 74, 111, 105, 110, 78, 101, 116, 119, 111, 114, 107, 115, 32, 108, 111, 111, 112, 46, 101, 120, 97, 109, 112, 108, 101, 47, 103, 48, 51, 50, 50, 52, 47, 108, 97, 119, 115, 46, 70, 110, 82, 101, 97, 99, 104, 101, 100, 32, 108, 111, 111, 112, 46, 101, 120, 97, 109, 112, 108, 101, 47, 103, 48, 51, 50, 50, 52, 47, 108, 97, 119, 115, 46, 70, 110, 82, 111, 117, 110, 100, 115, 32, 108, 111, 111, 112, 46, 101, 120, 97, 109, 112, 108, 101, 47, 103, 48, 51, 50, 50, 52, 47, 108, 97, 119, 115, 46, 70, 110, 87, 97, 105, 116, 115, 32, 108, 111, 111, 112, 46, 101, 120, 97, 109, 112, 108, 101, 47, 103, 48, 51, 50, 50, 52, 47, 108, 97, 119, 115, 46, 70, 110, 67, 104, 97, 105, 110, 101, 100, 32, 108, 111, 111, 112, 46, 101, 120, 97, 109, 112, 108, 101, 47, 103, 48, 51, 50, 50, 52, 47, 108, 97, 119, 115, 46, 70, 110, 77, 111, 110, 111, 116, 111, 110, 101])))) := by kernel_rfl
theorem cs_append (a b : List Nat) : cs (a ++ b) = cs a ++ cs b := by simp [cs]
theorem ws_word (w r : List Char) (h : w.all (fun c => c != Char.ofNat 32) = true) : wordsSigns (w ++ Char.ofNat 32 :: r) = w :: wordsSigns r := by
  induction w with
  | nil => rfl
  | cons c w ih =>
    simp only [List.all_cons, Bool.and_eq_true, bne_iff_ne, ne_eq] at h
    rw [List.cons_append, wordsSigns.eq_3 _ _ h.1, ih h.2]
def tail : List (List Char) := wordsSigns (cs [97, 116, 32, 108, 111, 111, 112, 46, 101, 120, 97, 109, 112, 108, 101, 47, 103, 48, 51, 50, 50, 52, 47, 108, 97, 119, 115, 46, 70, 110, 75, 101, 112, 116, 32, 108, 111, 111, 112, 46, 101, 120, 97, 109, 112, 108, 101, 47, 103, 48, 51, 50, 50, 52, 47, 108, 97, 119, 115, 46, 70, 110, 75, 97, 104, 110, 32, 108, 111, 111, 112, 46, 101, 120, 97, 109, 112, 108, 101, 47, 103, 48, 51, 50, 50, 52, 47, 108, 97, 119, 115, 46, 70, 110, 80, 114, 111, 99, 101, 115, 115, 32, 108, 111, 111, 112, 46, 101, 120, 97, 109, 112, 108, 101, 47, 103, 48, 51, 50, 50, 52, 47, 108, 97, 119, 115, 46, 70, 110, 69, 120, 97, 99, 116, 74, 111, 105, 110, 78, 101, 116, 119, 111, 114, 107, 115, 32, 108, 111, 111, 112, 46, 101, 120, 97, 109, 112, 108, 101, 47, 103, 48, 51, 50, 50, 52, 47, 108, 97, 119, 115, 46, 70, 110, 82, 101, 97, 99, 104, 101, 100, 32, 108, 111, 111, 112, 46, 101, 120, 97, 109, 112, 108, 101, 47, 103, 48, 51, 50, 50, 52, 47, 108, 97, 119, 115, 46, 70, 110, 82, 111, 117, 110, 100, 115, 32, 108, 111, 111, 112, 46, 101, 120, 97, 109, 112, 108, 101, 47, 103, 48, 51, 50, 50, 52, 47, 108, 97, 119, 115, 46, 70, 110, 87, 97, 105, 116, 115, 32, 108, 111, 111, 112, 46, 101, 120, 97, 109, 112, 108, 101, 47, 103, 48, 51, 50, 50, 52, 47, 108, 97, 119, 115, 46, 70, 110, 67, 104, 97, 105, 110, 101, 100, 32, 108, 111, 111, 112, 46, 101, 120, 97, 109, 112, 108, 101, 47, 103, 48, 51, 50, 50, 52, 47, 108, 97, 119, 115, 46, 70, 110, 77, 111, 110, 111, 116, 111, 110, 101])
theorem words : wordsSigns Try.checked.prog.initOrder.toList = cs [104, 97, 114, 110, 101, 115, 115] :: cs [50, 97, 51, 55, 100, 100, 54, 97, 52, 51, 55, 97, 97, 97, 52, 57, 102, 51, 57, 49, 54, 55, 56, 48, 56, 54, 51, 51, 51, 102, 55, 56, 48, 56, 56, 50, 101, 51, 49, 102, 101, 55, 101, 51, 101, 100, 54, 54, 52, 97, 97, 102, 56, 100, 98, 97, 57, 97, 48, 48, 53, 54, 97, 101] :: cs [99, 117, 116] :: tail := by
  rw [io, String.toList_ofList, cs_append, show ∀ l, cs (32 :: l) = Char.ofNat 32 :: cs l from fun _ => rfl, ws_word _ _ (by kernel_rfl), cs_append, show ∀ l, cs (32 :: l) = Char.ofNat 32 :: cs l from fun _ => rfl, ws_word _ _ (by kernel_rfl), cs_append, show ∀ l, cs (32 :: l) = Char.ofNat 32 :: cs l from fun _ => rfl, ws_word _ _ (by kernel_rfl)]
  rfl
theorem behind : behindMainWord (wordsSigns Try.checked.prog.initOrder.toList) = cs [99, 117, 116] :: tail := by
  rw [words]
  kernel_rfl
theorem strip (t : List (List Char)) : stripLifts liftWords (cs [99, 117, 116] :: t) = ([], cs [99, 117, 116] :: t) := by
  simp [stripLifts, liftWords, cs]
theorem headLifts_of (P : Program) (t : List (List Char)) (h : behindMainWord (wordsSigns P.initOrder.toList) = cs [99, 117, 116] :: t) : P.headLifts = [] := by
  unfold Program.headLifts
  rw [h, strip]
  simp
theorem mayEnter_of (P : Program) (t : List (List Char)) (h : behindMainWord (wordsSigns P.initOrder.toList) = cs [99, 117, 116] :: t) (h1 : P.laysLater = false) (h2 : P.bearsReflect = false) (h3 : P.doorFits [] = true) : P.mayEnter = true := by
  unfold Program.mayEnter
  rw [h]
  simp only [strip, h1, h2, h3]
  simp [cs]
theorem liftsFinal_of (P : Program) (t : List (List Char)) (h : behindMainWord (wordsSigns P.initOrder.toList) = cs [99, 117, 116] :: t) : P.liftsFinal = false := by
  unfold Program.liftsFinal
  rw [headLifts_of P t h, h]
  simp [cs]
theorem make_of (P : Program) (t : List (List Char)) (h : behindMainWord (wordsSigns P.initOrder.toList) = cs [99, 117, 116] :: t) : P.make = some .cut := by
  unfold Program.make
  rw [h]
  simp [cs]
theorem lays : Try.checked.prog.laysLater = false := by kernel_rfl
theorem refl : Try.checked.prog.bearsReflect = false := by kernel_rfl
theorem doors : Try.checked.prog.doorFits [] = true := by kernel_rfl
theorem mayEnter : Try.checked.prog.mayEnter = true := mayEnter_of _ tail behind lays refl doors
theorem liftsFinal : Try.checked.prog.liftsFinal = false := liftsFinal_of _ tail behind
theorem make : Try.checked.prog.make = some .cut := make_of _ tail behind
theorem laidOut : laidOutB Try.checked.prog = true := by kernel_rfl
theorem and_mk {a b : Bool} (h : a = true) (k : b = true) : (a && b) = true := by rw [h, k]; rfl
end Go.Proofs.Ytimgfinlbhodhaa.Facts
