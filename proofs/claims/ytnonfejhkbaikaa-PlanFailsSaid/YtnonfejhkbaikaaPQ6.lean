/- Layer 6, plainly: what is done to bytes. -/
import Derived.Test.YtnonfejhkbaikaaPC1
namespace Go.G
open Go.Ab
set_option linter.unusedVariables false
set_option linter.unusedSimpArgs false
abbrev Dw := Int × Int × List UInt8
def cZ (k : Int) : Bool := decide (k = 1) || decide (k = 10)
def A8 (k : Int) : Int := if k = 2 then 15 else if k = 7 then 999 else if k = 8 then 999 else -1
def eS (k : Int) : Bool := decide (k = 1) || (decide (k = 2) || decide (k = 3))
def ke (c : UInt8) : Bool := !(decide (c < 32)) && (!(decide (126 < c)) && !(decide (c = 34)))
def jt (s : List UInt8) : Bool := s.all ke && decide (s.length ≤ 64)
def Fu (d : Dw) : Bool :=
 if d.1 < 1 then false else if 11 < d.1 then false else
 if cZ d.1 then (if d.2.1 = 0 then jt d.2.2 else false)
 else if d.2.2 = [] then (if 0 ≤ d.2.1 then decide (d.2.1 ≤ (if 0 > A8 d.1 then 0 else A8 d.1)) else false) else false
def fT (first : Bool) (d : Dw) : Bool := Fu d && (eS d.1 == first)
def jQ : Nat → List Dw → Bool
 | _, [] => true
 | i, d :: r => fT (decide (i = 0)) d && jQ (i + 1) r
def okA (l : List Dw) : Bool := jQ 0 l && (decide (1 ≤ l.length) && decide (l.length ≤ 8))
end Go.G
