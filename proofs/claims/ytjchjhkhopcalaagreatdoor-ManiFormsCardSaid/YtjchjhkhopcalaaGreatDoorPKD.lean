/- ... -/
import Derived.Test.YtjchjhkhopcalaaGreatDoorPKC
set_option linter.unusedVariables false
set_option linter.unusedSimpArgs false
namespace Go.Ab
def OP {α : Type} (x : Option α) (k : α → Prop) : Prop := match x with
 | some v => k v
 | none => False
def OP2 (x : Option (Value × Store)) (k : Value → Store → Prop) : Prop := OP x fun r => k r.1 r.2
def LT (v : Value) (M : Store) (k : Value → Store → Prop) : Prop := k v M
def BR (v : Value) (A B : Prop) : Prop := match v with
 | .bool true => A
 | .bool false => B
 | _ => False
def st (s : Nat) (a v : Value) (M : Store) : Option Store := match a with
 | .pointer (some ⟨b, o, none⟩) =>
  match M.get b with
  | some (.inl (c, e, true)) =>
   if s = v.cells.size ∧ o + v.cells.size ≤ c.length ∧ v.cells.all (·.oneCell') = true then
    some (M.set b (some (.inl (aA c o v.cells.toList, e, true)))) else none
  | _ => none
 | _ => none
def f9 (z : Value) (s n : Nat) (parts : List (Nat × Value)) : Option (List Value) :=
 if parts.all (fun p => p.2.cells.all (·.oneCell')) = true then (Instr.fill (fun i => some (i * s, s)) (ae z (n * s)) parts).map Array.toList else none
def iS (x : Value) : Option Value := match x with
 | .pointer (some a) => some (.pointer (some a))
 | _ => none
def aS (op : BinOp) (x y : Value) : Option Value := match x, y with
 | .int k a, .int j b =>
  match op with
  | .shl => if b < 0 then none else some (.int k (k.wrap (a * 2 ^ (min b.toNat k.bits))))
  | .shr => if b < 0 then none else some (.int k (a.fdiv (2 ^ (min b.toNat k.bits))))
  | _ => if k ≠ j then none else
   match op with
   | .add => some (.int k (k.wrap (a + b)))
   | .sub => some (.int k (k.wrap (a - b)))
   | .mul => some (.int k (k.wrap (a * b)))
   | .quo => if b = 0 then none else some (.int k (k.wrap (a.tdiv b)))
   | .rem => if b = 0 then none else some (.int k (a.tmod b))
   | .and => some (.int k (k.wrap (BitVec.ofInt k.bits a &&& BitVec.ofInt k.bits b).toNat))
   | .or => some (.int k (k.wrap (BitVec.ofInt k.bits a ||| BitVec.ofInt k.bits b).toNat))
   | .xor => some (.int k (k.wrap (BitVec.ofInt k.bits a ^^^ BitVec.ofInt k.bits b).toNat))
   | .eql => some (.bool (a == b))
   | .neq => some (.bool (a != b))
   | .lss => some (.bool (a < b))
   | .leq => some (.bool (a ≤ b))
   | .gtr => some (.bool (a > b))
   | .geq => some (.bool (a ≥ b))
   | _ => none
 | _, _ => none
def cvI (k : IntKind) (x : Value) : Option Value := match x with
 | .int _ n => some (.int k (k.wrap n))
 | _ => none
def fad (off : Nat) (x : Value) : Option Value := match x with
 | .pointer (some ⟨b, o, none⟩) => some (.pointer (some ⟨b, o + off, none⟩))
 | _ => none
def iR (x : Value) : Option Value := match x with
 | .slice _ n _ => some (goInt n)
 | _ => none
def Runs (P : Program) (E : Ext) (f : FuncId) (args : Array Value) (M : Store) (Q : Value → Store → Prop) : Prop :=
 ∃ k v M', af P E k true f args M = some (v, M') ∧ Q v M'
theorem Runs.mono {P : Program} {E : Ext} {f : FuncId} {args : Array Value} {M : Store} {Q R : Value → Store → Prop} (h : Runs P E f args M Q) (k : ∀ v M', Q v M' → R v M') : Runs P E f args M R := by
 obtain ⟨n, v, M', h1, h2⟩ := h
 exact ⟨n, v, M', h1, k _ _ h2⟩
end Go.Ab

set_option linter.unusedVariables false
set_option linter.unusedSimpArgs false
namespace Go.Ab
section
variable {P : Program} {E : Ext} {rd : Option Nat}
def plain (B : Nat) : Code → Bool
 | .seq x y => plain B x && plain B y
 | .cond _ x y => plain B x && plain B y
 | .block id x => Nat.blt id B && plain B x
 | .exit id => Nat.blt id B
 | .skip => true
 | .region _ _ _ => true
 | .ret => true
 | _ => false
def sub : Code → List Nat → Code
 | c, [] => c
 | .seq x _, 0 :: p => sub x p
 | .seq _ y, _ :: p => sub y p
 | .cond _ x _, 0 :: p => sub x p
 | .cond _ _ y, _ :: p => sub y p
 | .block _ x, _ :: p => sub x p
 | .loop x, _ :: p => sub x p
 | .rangeFunc _ _ x _, 0 :: p => sub x p
 | .rangeFunc _ _ _ y, _ :: p => sub y p
 | c, _ => c
def bD (fn : Func) : Code := fn.body.getD .skip
end
end Go.Ab
