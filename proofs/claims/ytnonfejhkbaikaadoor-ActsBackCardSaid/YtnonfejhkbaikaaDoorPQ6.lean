/- Layer 6, plainly: what is done to bytes. -/
import Derived.Test.YtnonfejhkbaikaaDoorPC1
namespace Go.G
open Go.Ab
set_option linter.unusedVariables false
set_option linter.unusedSimpArgs false

/-- A thing that is done: its kind, its number, its text. -/
abbrev Dw := Int × Int × List UInt8
def textA (k : Int) : Bool := decide (k = 1) || decide (k = 10)
def topA (k : Int) : Int := if k = 2 then 15 else if k = 7 then 999 else if k = 8 then 999 else -1
def beginsA (k : Int) : Bool := decide (k = 1) || (decide (k = 2) || decide (k = 3))
def fitB (c : UInt8) : Bool := !(decide (c < 32)) && (!(decide (126 < c)) && !(decide (c = 34)))
def fitsA (s : List UInt8) : Bool := s.all fitB && decide (s.length ≤ 64)
def rightA (d : Dw) : Bool :=
  if d.1 < 1 then false else if 11 < d.1 then false else
  if textA d.1 then (if d.2.1 = 0 then fitsA d.2.2 else false)
  else if d.2.2 = [] then (if 0 ≤ d.2.1 then decide (d.2.1 ≤ (if 0 > topA d.1 then 0 else topA d.1)) else false) else false
def goodA (first : Bool) (d : Dw) : Bool := rightA d && (beginsA d.1 == first)
def okFrom : Nat → List Dw → Bool
  | _, [] => true
  | i, d :: r => goodA (decide (i = 0)) d && okFrom (i + 1) r
def okA (l : List Dw) : Bool := okFrom 0 l && (decide (1 ≤ l.length) && decide (l.length ≤ 8))
/-- A thing's bytes. -/
def doB (d : Dw) : List UInt8 := be 6 (held d.1) ++ (be 6 (held d.2.1) ++ (be 6 d.2.2.length ++ d.2.2))
def actB (l : List Dw) : List UInt8 := be 6 l.length ++ l.flatMap doB

/-! ## done -/
def turnB (from_ to_ : UInt8) (by_ : Int) (c : UInt8) : UInt8 := if from_ ≤ c then (if c ≤ to_ then u8N ((c.toNat : Int) + by_) else c) else c
def joinB6 (s : List UInt8) : List UInt8 → List UInt8
  | [] => []
  | [c] => [c]
  | c :: r => c :: (s ++ joinB6 s r)
def stepA (d : Dw) (ins : List (List UInt8)) (b : List UInt8) : Option (List UInt8) :=
  if d.1 = 1 then some d.2.2 else
  if d.1 = 2 then (if d.2.1 < (ins.length : Int) then some (ins.getD d.2.1.toNat []) else none) else
  if d.1 = 3 then some ins.flatten else
  if d.1 = 4 then some (b.map (turnB 97 122 (-32))) else
  if d.1 = 5 then some (b.map (turnB 65 90 32)) else
  if d.1 = 6 then some b.reverse else
  if d.1 = 7 then some (b.take d.2.1.toNat) else
  if d.1 = 8 then some (b.drop d.2.1.toNat) else
  if d.1 = 9 then some (b ++ b) else
  if d.1 = 10 then some (joinB6 d.2.2 b) else none
def runL (ins : List (List UInt8)) : List Dw → List UInt8 → Option (List UInt8)
  | [], b => some b
  | d :: r, b => match stepA d ins b with
    | none => none
    | some x => if 256 < x.length then none else runL ins r x
def runA (l : List Dw) (ins : List (List UInt8)) : Option (List UInt8) := if okA l then runL ins l [] else none
end Go.G
