/- The bytes of a tree, and how they are read: plain Lean. -/
import Derived.Test.YtcihihncgpddfaaTreM
namespace Go.Proofs.Ytcihihncgpddfaa
open Go.RowKit
set_option linter.unusedVariables false
set_option linter.unusedSimpArgs false

/-- a number's bytes, the least seven bits first -/
def numF : Nat → Nat → List Int
  | 0, n => [((n % 256 : Nat) : Int)]
  | f + 1, n => if n < 128 then [(n : Int)] else ((n % 128 + 128 : Nat) : Int) :: numF f (n / 128)
def numB (n : Int) : List Int := numF 10 n.toNat
def sgnN (n : Int) : Int := if n < 0 then -2 * n - 1 else 2 * n
def sgnB (n : Int) : List Int := numB (sgnN n)
def strB (s : ByteArray) : List Int := s.data.toList.map fun c => (c.toNat : Int)
def txtB (s : ByteArray) : List Int := numB s.size ++ strB s
def itB (x : It) : List Int := [x.k] ++ (numB x.n ++ (numB x.d ++ (numB x.lo ++ numB x.hi)))
def kidsB (l : List Int) : List Int := l.flatMap numB
def itsB (l : List It) : List Int := l.flatMap itB
/-- the thirteen pieces of a node's bytes -/
def partB (x : Nd) : Nat → List Int
  | 0 => [x.kind]
  | 1 => txtB x.id
  | 2 => txtB x.cls
  | 3 => txtB x.text
  | 4 => numB x.kids.length ++ kidsB x.kids
  | 5 => itB x.iw
  | 6 => itB x.ih
  | 7 => numB x.gap
  | 8 => numB x.p0 ++ (numB x.p1 ++ (numB x.p2 ++ numB x.p3))
  | 9 => [x.border, x.align, x.cross, x.wrap, x.flags]
  | 10 => numB x.fg ++ (numB x.bg ++ [x.add, x.drop])
  | 11 => numB x.cols.length ++ itsB x.cols
  | _ => sgnB x.x0 ++ (sgnB x.x1 ++ (sgnB x.x2 ++ sgnB x.x3))
def partsTo (x : Nd) : Nat → List Int
  | 0 => []
  | k + 1 => partsTo x k ++ partB x k
def ndB (x : Nd) : List Int := partsTo x 13
def headB (n : Nat) : List Int := [70, 84, 1] ++ numB n
/-- the first nodes' bytes, till they are too many -/
def encGo : List Nd → List Int → Option (List Int)
  | [], b => some b
  | x :: l, b => if 1048576 < (b ++ ndB x).length then none else encGo l (b ++ ndB x)
def encT (T : List Nd) : List Int × Int :=
  if (checkT T).1 ≠ 0 then ([], (checkT T).1)
  else match encGo T (headB T.length) with
    | some b => (b, 0)
    | none => ([], 3)

/-- a reader's state: where it is, what was wrong first, and where -/
structure Rs where
  at_ : Nat
  code : Int
  bad : Int
def failS (c : Int) (a : Int) (s : Rs) : Rs := if s.code = 0 then ⟨s.at_, c, a⟩ else s
abbrev Rdr (α : Type) := List Int → Rs → α × Rs
def rP {α : Type} (a : α) : Rdr α := fun _ s => (a, s)
def rB {α β : Type} (f : Rdr α) (g : α → Rdr β) : Rdr β := fun B s => g (f B s).1 B (f B s).2
def octR (most : Int) : Rdr Int := fun B s =>
  if s.code ≠ 0 then (0, s)
  else if B.length ≤ s.at_ then (0, ⟨s.at_, 6, s.at_⟩)
  else if most < B.getD s.at_ 0 then (0, ⟨s.at_, 100, s.at_⟩)
  else (B.getD s.at_ 0, ⟨s.at_ + 1, 0, s.bad⟩)
def numGo (start : Nat) : Nat → Nat → Int → Rdr Int
  | 0, _, _ => fun _ s => (0, failS 100 start s)
  | f + 1, i, n => fun B s =>
    if (octR 255 B s).2.code ≠ 0 then (0, (octR 255 B s).2)
    else if (octR 255 B s).1 < 128 then
      (if (0 < i ∧ (octR 255 B s).1 = 0) ∨ 2147483648 ≤ n + (octR 255 B s).1 % 128 * 128 ^ i then (0, failS 100 start (octR 255 B s).2) else (n + (octR 255 B s).1 % 128 * 128 ^ i, (octR 255 B s).2))
    else numGo start f (i + 1) (n + (octR 255 B s).1 % 128 * 128 ^ i) B (octR 255 B s).2
def numR : Rdr Int := fun B s => numGo s.at_ 5 0 0 B s
def unS (n : Int) : Int := if n % 2 = 1 then -(n / 2) - 1 else n / 2
def sgnR : Rdr Int := rB numR fun n => rP (unS n)
def strOf (l : List Int) : ByteArray := ⟨(l.map fun c => UInt8.ofNat c.toNat).toArray⟩
def txtR : Rdr ByteArray := fun B s =>
  if (numR B s).2.code ≠ 0 then (ByteArray.empty, (numR B s).2)
  else if (B.length : Int) - (numR B s).2.at_ < (numR B s).1 then (ByteArray.empty, ⟨(numR B s).2.at_, 6, B.length⟩)
  else (strOf ((B.drop (numR B s).2.at_).take (numR B s).1.toNat), ⟨(numR B s).2.at_ + (numR B s).1.toNat, 0, (numR B s).2.bad⟩)
def itR : Rdr It := rB (octR 127) fun k => rB numR fun n => rB numR fun d => rB numR fun lo => rB numR fun hi => rP ⟨k, n, d, lo, hi⟩
/-- as many as are said, till something is wrong -/
def manyR {α : Type} (f : Rdr α) : Nat → Rdr (List α)
  | 0 => rP []
  | n + 1 => fun B s => if s.code ≠ 0 then ([], s) else ((f B s).1 :: (manyR f n B (f B s).2).1, (manyR f n B (f B s).2).2)
def partR (x : Nd) : Nat → Rdr Nd
  | 0 => rB (octR 127) fun k => rP { x with kind := k }
  | 1 => rB txtR fun k => rP { x with id := k }
  | 2 => rB txtR fun k => rP { x with cls := k }
  | 3 => rB txtR fun k => rP { x with text := k }
  | 4 => rB numR fun n => rB (manyR numR n.toNat) fun l => rP { x with kids := l }
  | 5 => rB itR fun k => rP { x with iw := k }
  | 6 => rB itR fun k => rP { x with ih := k }
  | 7 => rB numR fun k => rP { x with gap := k }
  | 8 => rB numR fun a => rB numR fun b => rB numR fun c => rB numR fun d => rP { x with p0 := a, p1 := b, p2 := c, p3 := d }
  | 9 => rB (octR 127) fun a => rB (octR 127) fun b => rB (octR 127) fun c => rB (octR 127) fun d => rB (octR 255) fun e => rP { x with border := a, align := b, cross := c, wrap := d, flags := e }
  | 10 => rB numR fun a => rB numR fun b => rB (octR 255) fun c => rB (octR 255) fun d => rP { x with fg := a, bg := b, add := c, drop := d }
  | 11 => rB numR fun n => rB (manyR itR n.toNat) fun l => rP { x with cols := l }
  | _ => rB sgnR fun a => rB sgnR fun b => rB sgnR fun c => rB sgnR fun d => rP { x with x0 := a, x1 := b, x2 := c, x3 := d }
def partsR : Nat → Rdr Nd
  | 0 => rP zNd
  | k + 1 => rB (partsR k) fun x => partR x k
def ndR : Rdr Nd := partsR 13
def wantR (i : Nat) (c : Int) : Rdr Unit := fun B s => ((), if (octR 255 B s).1 = c then (octR 255 B s).2 else failS 100 i (octR 255 B s).2)
def headR : Rdr Int := rB (wantR 0 70) fun _ => rB (wantR 1 84) fun _ => rB (wantR 2 1) fun _ => fun B s =>
  ((numR B s).1, if (numR B s).1 = 0 ∨ 4096 < (numR B s).1 then failS 100 s.at_ (numR B s).2 else (numR B s).2)
def bodyR : Rdr (List Nd) := rB headR fun n => manyR ndR n.toNat
def endS (B : List Int) (s : Rs) : Rs := if s.at_ < B.length then failS 100 s.at_ s else s
/-- what is read: the nodes, the error, its place -/
def decT (B : List Int) : List Nd × Int × Int :=
  if 1048576 < B.length then ([], 3, 0)
  else if (endS B (bodyR B ⟨0, 0, 0⟩).2).code ≠ 0 then ([], (endS B (bodyR B ⟨0, 0, 0⟩).2).code, (endS B (bodyR B ⟨0, 0, 0⟩).2).bad)
  else if (checkT (bodyR B ⟨0, 0, 0⟩).1).1 ≠ 0 then ([], checkT (bodyR B ⟨0, 0, 0⟩).1)
  else ((bodyR B ⟨0, 0, 0⟩).1, 0, 0)
end Go.Proofs.Ytcihihncgpddfaa
