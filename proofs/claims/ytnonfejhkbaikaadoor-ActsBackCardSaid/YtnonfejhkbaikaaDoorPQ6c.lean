/- Layer 6, plainly: an action's words. -/
import Derived.Test.YtnonfejhkbaikaaDoorPQ6
import Derived.Test.YtnonfejhkbaikaaDoorPKE
namespace Go.G
open Go.Ab
set_option linter.unusedVariables false
set_option linter.unusedSimpArgs false

/-- A word: its text, line, column, whether it is quoted. -/
abbrev Ww := List UInt8 × Int × Int × Bool
def wordsA : List (List UInt8) := [[], [116, 101, 120, 116], [105, 110], [97, 108, 108], [117, 112, 112, 101, 114], [108, 111, 119, 101, 114], [114, 101, 118], [116, 97, 107, 101], [100, 114, 111, 112], [116, 119, 105, 99, 101], [106, 111, 105, 110], [102, 97, 105, 108]]
/-- Where a text stands first, from a place on. -/
def idxA (t : List UInt8) : Nat → List (List UInt8) → Int
  | _, [] => -1
  | i, x :: r => if t = x then (i : Int) else idxA t (i + 1) r
def kindA (t : List UInt8) : Int := if 0 > idxA t 0 wordsA then 0 else idxA t 0 wordsA
def numA (t : List UInt8) : Int := match Lib.atoiAll t with
  | .ok v => if Lib.itoa v = t then v else -1
  | _ => -1
/-- A thing of its words, as the program reads it. -/
def oneA : List Ww → Option Dw
  | [] => none
  | w :: r => if w.2.2.2 then none else
    if textA (kindA w.1) then (match r with
      | [x] => if x.2.2.2 then some (kindA w.1, 0, x.1) else none
      | _ => none)
    else if 0 ≤ topA (kindA w.1) then (match r with
      | [x] => if x.2.2.2 then none else some (kindA w.1, numA x.1, [])
      | _ => none)
    else if r = [] then some (kindA w.1, 0, []) else none
end Go.G
