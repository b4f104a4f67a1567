/- Layer 6, plainly: what is done to bytes. -/
import Derived.Test.YtnonfejhkbaikaaPC1
namespace Go.G
open Go.Ab
set_option linter.unusedVariables false
set_option linter.unusedSimpArgs false
abbrev Dw := Int × Int × List UInt8
def dd (k : Int) : Bool := decide (k = 1) || decide (k = 10)
def CG (k : Int) : Int := if k = 2 then 15 else if k = 7 then 999 else if k = 8 then 999 else -1
def fc (k : Int) : Bool := decide (k = 1) || (decide (k = 2) || decide (k = 3))
def kS (c : UInt8) : Bool := !(decide (c < 32)) && (!(decide (126 < c)) && !(decide (c = 34)))
def j1 (s : List UInt8) : Bool := s.all kS && decide (s.length ≤ 64)
def He (d : Dw) : Bool :=
 if d.1 < 1 then false else if 11 < d.1 then false else
 if dd d.1 then (if d.2.1 = 0 then j1 d.2.2 else false)
 else if d.2.2 = [] then (if 0 ≤ d.2.1 then decide (d.2.1 ≤ (if 0 > CG d.1 then 0 else CG d.1)) else false) else false
def ga (first : Bool) (d : Dw) : Bool := He d && (fc d.1 == first)
def ki : Nat → List Dw → Bool
 | _, [] => true
 | i, d :: r => ga (decide (i = 0)) d && ki (i + 1) r
def okA (l : List Dw) : Bool := ki 0 l && (decide (1 ≤ l.length) && decide (l.length ≤ 8))
end Go.G
