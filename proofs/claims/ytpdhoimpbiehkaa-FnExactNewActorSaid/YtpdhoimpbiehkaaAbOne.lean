/- One operation that leaves the memory alone. -/
import Derived.Test.YtpdhoimpbiehkaaAbVal
namespace Go.Proofs.Ytpdhoimpbiehkaa.Ab
open Go
set_option linter.unusedVariables false
set_option linter.unusedSimpArgs false

/-- The cells of an element of a living block. -/
def bsz (h : Heap) (m : Nat) : Option Nat :=
  match h[m]? with
  | some (some b) => some b.1
  | _ => none
def bes (h : Heap) (m : Nat) : List (List A) :=
  match h[m]? with
  | some (some b) => b.2
  | _ => []
/-- No memory of its own. -/
def notOwn : A → Bool
  | .row true _ _ => false
  | .box _ => false
  | .agg _ => false
  | .tup _ => false
  | _ => true
def rdCells (es : List (List A)) (i j n : Nat) : Option (List A) :=
  match es[i]? with
  | some e => if ((e.drop j).take n).length = n ∧ n ≠ 0 then some ((e.drop j).take n) else none
  | none => none
def aload (agg : Bool) (cs : List A) : Option A :=
  if agg then some (.agg cs) else match cs with
    | [c] => some c
    | _ => none
/-- A cut's bounds. -/
def bhi (len : Nat) : Option A → Option Nat
  | none => some len
  | some (.int _ n) => if 0 ≤ n ∧ n ≤ len then some n.toNat else none
  | some _ => none
def blo (n : Nat) : Option A → Option (Nat × Nat)
  | none => some (0, n)
  | some (.int _ l) => if 0 ≤ l ∧ l ≤ (n : Int) then some (l.toNat, n) else none
  | some _ => none
def abnd (len : Nat) (lo hi : Option A) : Option (Nat × Nat) := (bhi len hi).bind fun n => blo n lo
def aslice (T : Tab) (h : Heap) (t : Nat) (x : A) (lo hi : Option A) : Option A :=
  match (T t).map TI.kind with
  | some (TK.slice e) =>
    match T e, x with
    | some i, .row false sz es => if sz = i.size then (abnd es.length lo hi).map fun b => .row false sz ((es.take b.2).drop b.1) else none
    | some i, .sl m b len => if bsz h m = some i.size then (abnd len lo hi).map fun c => .sl m (b + c.1) (c.2 - c.1) else none
    | _, _ => none
  | _ => none
def alen : A → Option A
  | .row _ _ es => some (.int .i64 es.length)
  | .sl _ _ len => some (.int .i64 len)
  | .nils => some (.int .i64 0)
  | .str s => some (.int .i64 s.size)
  | _ => none
def aval1 (T : Tab) (env : List (Nat × A)) (h : Heap) : Op → Option A
  | .move x => some (ev env x)
  | .assign x => some (ev env x)
  | .pick c a b => match ev env c with
    | .bool t => some (if t then ev env a else ev env b)
    | _ => none
  | .binOp op t x y _ => abin T op t (ev env x) (ev env y)
  | .unOp op _ x => match op, ev env x with
    | .not, .bool b => some (.bool (!b))
    | .neg, .int k n => some (.int k (k.wrap (0 - n)))
    | _, _ => none
  | .convert s d x => match ev env x, T s, (T d).map TI.kind with
    | .int k n, some _, some (TK.int k') => some (.int k' (k'.wrap n))
    | _, _, _ => none
  | .nilCheck x => match ev env x with
    | .ptr m i j => some (.ptr m i j)
    | .rp sz es i j => some (.rp sz es i j)
    | _ => none
  | .extract x i => match ev env x with
    | .tup vs => vs[i]?
    | _ => none
  | .fieldAddr s x f => match (T s).map TI.kind with
    | some (TK.struct fs) => match fs[f]?, ev env x with
      | some p, .ptr m i j => some (.ptr m i (j + p.1))
      | some p, .rp sz es i j => some (.rp sz es i (j + p.1))
      | _, _ => none
    | _ => none
  | .indexAddr t x ix => match (T t).map TI.kind with
    | some (TK.slice e) => match T e, ev env x, ev env ix with
      | some i, .row false sz es, .int _ n => if sz = i.size ∧ 0 ≤ n ∧ n < es.length then some (.rp sz es n.toNat 0) else none
      | some i, .sl m b len, .int _ n => if bsz h m = some i.size ∧ 0 ≤ n ∧ n < len then some (.ptr m (b + n.toNat) 0) else none
      | _, _, _ => none
    | _ => none
  | .slice t x lo hi mx => match mx with
    | none => aslice T h t (ev env x) (lo.map (ev env)) (hi.map (ev env))
    | some _ => none
  | .build t parts => match T t with
    | some i => match i.kind with
      | .struct fs => (fillA fs i.zero (parts.toList.map fun p => (p.1, ev env p.2))).map A.agg
      | _ => none
    | none => none
  | .makeFunc fn first caps => match fn with
    | .func f => if first.size = 0 then some (.fn f (caps.toList.map (ev env))) else none
    | _ => none
  | .load t p => match T t, ev env p with
    | some i, .rp _ es r j => (rdCells es r j i.size).bind (aload i.kind.agg)
    | some i, .ptr m r j => match rdCells (bes h m) r j i.size with
      | some cs => if cs.all notOwn then aload i.kind.agg cs else none
      | none => none
    | _, _ => none
  | .call c => match c.callee with
    | .builtin b => match b, c.args.toList, c.argTypes.toList with
      | .len, [x], [t] => match (T t).map TI.kind, ev env x with
        | some (TK.slice _), .str _ => none
        | some (TK.slice _), y => alen y
        | some TK.str, .str s => some (.int .i64 s.size)
        | _, _ => none
      | .min, [x, y], _ => match ev env x, ev env y with
        | .int k a, .int _ b => some (.int k (if b < a then b else a))
        | _, _ => none
      | .max, [x, y], _ => match ev env x, ev env y with
        | .int k a, .int _ b => some (.int k (if b > a then b else a))
        | _, _ => none
      | _, _, _ => none
    | _ => none
  | _ => none
end Go.Proofs.Ytpdhoimpbiehkaa.Ab
