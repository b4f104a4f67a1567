/- An abstract machine over the model's own code: memory is a list of objects, each owned by one block; no order is drawn, no capacity is known. Definitions only. -/
import Derived.WalkKit
import Derived.WalkSpells
import Derived.WalkLawsBesides
import Derived.Orders
import Derived.Test.YtmdbdbjaipcgeaaAbTree
set_option linter.unusedVariables false
set_option linter.unusedSimpArgs false
namespace Go.Ab
open Go.RowKit

/-- How code is left: 0 behind it, 1 by a return, n + 2 by the exit n. -/
abbrev AExit := Nat

/-- The record of a range over a function: its state, the pending jump, the temporaries as the loop began, the code of a round. -/
structure LRec where
  st : LoopState
  pe : AExit
  tmps : PT
  params : Array Tmp
  assign : Code
  body : Code

/-- An object: cells, their element type, whether a block is wholly its own; or a map's entries; or a loop's record, or the block for its deferred calls; or dead. -/
abbrev AObj := Option (Sum (List Value × TypeId × Bool) (Sum (List (Value × Value)) (Option LRec)))

/-- The objects, the newest first; which were written or let go. -/
structure Store where
  n : Nat
  l : List AObj
  log : List Nat

def Store.get (M : Store) (i : Nat) : AObj := if i < M.n then (M.l[M.n - 1 - i]?).getD none else none
def Store.push (M : Store) (o : AObj) : Store := { n := M.n + 1, l := o :: M.l, log := M.log }
def Store.set (M : Store) (i : Nat) (o : AObj) : Store :=
  if i < M.n then { n := M.n, l := M.l.set (M.n - 1 - i) o, log := i :: M.log } else M

def szOf (P : Program) (t : TypeId) : Option Nat := (P.info? t).map (·.size)
def byOf (P : Program) (t : TypeId) : Option Nat := (P.info? t).map (·.bytes)
def zrOf (P : Program) (t : TypeId) : Option Value := (P.info? t).bind (·.zero)

def aggT : TypeDesc → Bool
  | .struct _ => true
  | .array _ _ => true
  | _ => false

/-- A value that names no place, of one cell. -/
def plainV : Value → Bool
  | .int _ _ | .bool _ | .string _ | .pointer none | .map none | .nilFunc | .nilIface => true
  | .slice none n c => n == 0 && c == 0
  | _ => false

/-- The cells of an object from a place on. -/
def rowOf (M : Store) (b o n : Nat) : Option (List Value) :=
  match M.get b with
  | some (.inl (c, _, _)) => if o + n ≤ c.length then some ((c.drop o).take n) else none
  | _ => none

def valOf (d : TypeDesc) (cs : List Value) : Option Value :=
  if aggT d then some (.agg cs.toArray) else match cs with
    | [v] => some v
    | _ => none

def aload (P : Program) (t : TypeId) (a : Value) (M : Store) : Option Value :=
  match a with
  | .pointer (some ⟨b, o, none⟩) =>
    (P.underlying t).bind fun d => (szOf P t).bind fun s => (rowOf M b o s).bind fun cs => valOf d cs
  | _ => none

def splice (c : List Value) (o : Nat) (l : List Value) : List Value := c.take o ++ l ++ c.drop (o + l.length)

def astore (P : Program) (t : TypeId) (a v : Value) (M : Store) : Option Store :=
  match a with
  | .pointer (some ⟨b, o, none⟩) =>
    match M.get b with
    | some (.inl (c, e, true)) =>
      if szOf P t = some v.cells.size ∧ o + v.cells.size ≤ c.length ∧ v.cells.all (·.oneCell') = true then
        some (M.set b (some (.inl (splice c o v.cells.toList, e, true)))) else none
    | _ => none
  | _ => none

def aalloc (P : Program) (t : TypeId) (M : Store) : Option (Value × Store) :=
  (zrOf P t).bind fun z => if z.cells.all plainV then
    some (.pointer (some ⟨M.n, 0, none⟩), M.push (some (.inl (z.cells.toList, t, true)))) else none

def abox (t : TypeId) (v : Value) (M : Store) : Option (Value × Store) :=
  if v.cells.all (·.oneCell') then
    some (.pointer (some ⟨M.n, 0, none⟩), M.push (some (.inl (v.cells.toList, t, true)))) else none

def aplaces (P : Program) : List Field → Option (List (Nat × Nat))
  | [] => some []
  | f :: r => (szOf P f.type).bind fun s => (aplaces P r).bind fun q => some ((f.offset, s) :: q)

def abuild (P : Program) (t : TypeId) (parts : Array (Nat × Value)) : Option Value :=
  (zrOf P t).bind fun z => if z.cells.all plainV && parts.all (fun p => p.2.cells.all (·.oneCell')) then
    match P.underlying t with
    | some (.struct fs) => (aplaces P fs.toList).bind fun q => (Instr.fill (q[·]?) z.cells parts.toList).bind fun c => some (.agg c)
    | some (.array _ e) => (szOf P e).bind fun s => (Instr.fill (fun i => some (i * s, s)) z.cells parts.toList).bind fun c => some (.agg c)
    | _ => none
    else none

def zerosOf (z : Value) (n : Nat) : Array Value := (Array.range n).map (z.cells[· % z.cells.size]!)
/-- The same as a list, that is told at once. -/
def zerosL (z : Value) (n : Nat) : List Value := match z.cells.toList with
  | [c] => List.replicate n c
  | _ => (zerosOf z n).toList
theorem zerosL_eq (z : Value) (n : Nat) : zerosL z n = (zerosOf z n).toList := by
  unfold zerosL
  split
  · rename_i c h
    have hz : z.cells = #[c] := by apply Array.toList_inj.1; simpa using h
    unfold zerosOf
    rw [hz]
    simp only [Array.toList_map, Array.toList_range]
    apply List.ext_getElem
    · simp
    · intro i h1 h2
      simp [Nat.mod_one]
  · rfl

def abuildSlice (P : Program) (t : TypeId) (len : Nat) (parts : Array (Nat × Value)) (M : Store) : Option (Value × Store) :=
  match P.underlying t with
  | some (.slice e) => (szOf P e).bind fun s => (zrOf P e).bind fun z =>
    if len * s ≤ 2 ^ 24 && (0 < s && z.cells.all plainV && parts.all (fun p => p.2.cells.all (·.oneCell'))) then
      (Instr.fill (fun i => some (i * s, s)) (zerosOf z (len * s)) parts.toList).bind fun c =>
        some (.slice (some ⟨M.n, 0, none⟩) len len, M.push (some (.inl (c.toList, e, true))))
    else none
  | _ => none

/-- A bound of a cut. -/
def abound (x : Option Value) (y d : Nat) : Option Nat :=
  match x with
  | none => some d
  | some (.int _ i) => if 0 ≤ i ∧ i ≤ (y : Int) then some i.toNat else none
  | _ => none

/-- An object that is owned has these elements. -/
def elemOk (M : Store) (a : Option Addr) (e : TypeId) : Bool :=
  match a with
  | none => true
  | some a => match M.get a.block with
    | some (.inl (_, e', own)) => !own || e' == e
    | _ => false

def aslice (P : Program) (t : TypeId) (x : Value) (lo hi mx : Option Value) (M : Store) : Option Value :=
  match P.underlying t, x with
  | some .string, .string s =>
    if mx.isSome then none else
    (abound hi s.size s.size).bind fun h => (abound lo h 0).bind fun l => some (.string (s.extract l h))
  | some (.slice e), .slice a len cap =>
    (szOf P e).bind fun size =>
    match mx with
    | none =>
      (abound hi len len).bind fun h => (abound lo h 0).bind fun l =>
        if l = h || elemOk M a e then
          some (.slice (a.map (·.add (l * size))) (h - l) (if cap = len ∧ h = len then h - l else if l = h ∧ ¬ (l = 0 ∧ (0 < len ∨ cap = len + 1) ∧ elemOk M a e = true) then h - l + 2 else h - l + 1))
        else none
    | some m =>
      (abound (some m) len len).bind fun m => if hi.isNone then none else
      (abound hi m m).bind fun h => (abound lo h 0).bind fun l =>
        if l = h || elemOk M a e then
          some (.slice (a.map (·.add (l * size))) (h - l) (if h = m then h - l else h - l + 2))
        else none
  | _, _ => none

def afieldAddr (P : Program) (t : TypeId) (x : Value) (f : Nat) : Option Value :=
  match P.underlying t, x with
  | some (.struct fs), .pointer (some ⟨b, o, none⟩) =>
    (fs[f]?).bind fun fd => (szOf P fd.type).bind fun s => if s = 0 then none else some (.pointer (some ⟨b, o + fd.offset, none⟩))
  | _, _ => none

def apart (P : Program) (t : TypeId) (cs : Array Value) (off : Nat) : Option Value :=
  (P.underlying t).bind fun d => (szOf P t).bind fun s =>
    if off + s ≤ cs.size then valOf d (cs.extract off (off + s)).toList else none

def afield (P : Program) (t : TypeId) (x : Value) (f : Nat) : Option Value :=
  match P.underlying t, x with
  | some (.struct fs), .agg cs => (fs[f]?).bind fun fd => apart P fd.type cs fd.offset
  | _, _ => none

def aindexAddr (P : Program) (t : TypeId) (x i : Value) : Option Value :=
  match P.underlying t, x, i with
  | some (.slice e), .slice (some a) len _, .int _ i =>
    (szOf P e).bind fun s => if 0 ≤ i ∧ i < (len : Int) ∧ a.spot = none then some (.pointer (some ⟨a.block, a.off + i.toNat * s, none⟩)) else none
  | some (.array len e), .pointer (some a), .int _ i =>
    (szOf P e).bind fun s => if 0 ≤ i ∧ i < (len : Int) ∧ a.spot = none then some (.pointer (some ⟨a.block, a.off + i.toNat * s, none⟩)) else none
  | _, _, _ => none

def aindex (P : Program) (t : TypeId) (x i : Value) : Option Value :=
  match P.underlying t, x, i with
  | some (.array len e), .agg cs, .int _ i =>
    (szOf P e).bind fun s => if 0 ≤ i ∧ i < (len : Int) then apart P e cs (i.toNat * s) else none
  | some .string, .string s, .int _ i => if 0 ≤ i then (s[i.toNat]?).bind fun b => some (.int .u8 b.toNat) else none
  | _, _, _ => none

/-- Two structs whose fields are plain. -/
def aeqFields (P : Program) (xs ys : Array Value) : List Field → Option Bool
  | [] => some true
  | f :: r =>
    if f.name = "_" then none else
    match P.underlying f.type, xs[f.offset]?, ys[f.offset]? with
    | some (.int _), some (.int k a), some (.int j b) => if k = j then (if a = b then aeqFields P xs ys r else some false) else none
    | some .string, some (.string a), some (.string b) => if a = b then aeqFields P xs ys r else some false
    | some .bool, some (.bool a), some (.bool b) => if a = b then aeqFields P xs ys r else some false
    | _, _, _ => none

def aeq (P : Program) (cst : Bool) (t : TypeId) (x y : Value) : Option Bool :=
  match P.underlying t, x, y with
  | some .bool, .bool a, .bool b => some (a == b)
  | some (.pointer _), .pointer none, .pointer b => some b.isNone
  | some (.pointer _), .pointer (some _), .pointer none => some false
  | some (.slice _), .slice none _ _, .slice b _ _ => some b.isNone
  | some (.slice _), .slice (some _) _ _, .slice none _ _ => some false
  | some (.map _ _), .map none, .map b => some b.isNone
  | some (.map _ _), .map (some _), .map none => some false
  | some (.func _ _ _), .nilFunc, .nilFunc => some true
  | some (.func _ _ _), .nilFunc, .func _ _ _ => some false
  | some (.func _ _ _), .func _ _ _, .nilFunc => some false
  | some (.interface _), .nilIface, .nilIface => if cst then some true else none
  | some (.interface _), .nilIface, .iface _ _ => some false
  | some (.interface _), .iface _ _, .nilIface => some false
  | some (.struct fs), .agg xs, .agg ys =>
    if P.stoodInHeld t || P.eqGuardType P.depth t then none else aeqFields P xs ys fs.toList
  | _, _, _ => none

def abin (P : Program) (cst : Bool) (op : BinOp) (t : TypeId) (x y : Value) : Option Value :=
  match x, y with
  | .int k a, .int j b =>
    match op with
    | .shl => if b < 0 then none else some (.int k (k.wrap (a * 2 ^ (min b.toNat k.bits))))
    | .shr => if b < 0 then none else some (.int k (a.fdiv (2 ^ (min b.toNat k.bits))))
    | _ => if k ≠ j then none else
      match op with
      | .add => some (.int k (k.wrap (a + b)))
      | .sub => some (.int k (k.wrap (a - b)))
      | .mul => some (.int k (k.wrap (a * b)))
      | .quo => if b = 0 then none else some (.int k (k.wrap (a.tdiv b)))
      | .rem => if b = 0 then none else some (.int k (a.tmod b))
      | .and => some (.int k (k.wrap (BitVec.ofInt k.bits a &&& BitVec.ofInt k.bits b).toNat))
      | .or => some (.int k (k.wrap (BitVec.ofInt k.bits a ||| BitVec.ofInt k.bits b).toNat))
      | .xor => some (.int k (k.wrap (BitVec.ofInt k.bits a ^^^ BitVec.ofInt k.bits b).toNat))
      | .eql => some (.bool (a == b))
      | .neq => some (.bool (a != b))
      | .lss => some (.bool (a < b))
      | .leq => some (.bool (a ≤ b))
      | .gtr => some (.bool (a > b))
      | .geq => some (.bool (a ≥ b))
      | _ => none
  | .string a, .string b =>
    match op with
    | .add => if a.size + b.size ≤ 2 ^ 40 then some (.string (a ++ b)) else none
    | .eql => some (.bool (a.data.toList == b.data.toList))
    | .neq => some (.bool (!(a.data.toList == b.data.toList)))
    | .lss => some (.bool (Op.bytesLess a.data.toList b.data.toList))
    | .leq => some (.bool (Op.bytesLess a.data.toList b.data.toList || a.data.toList == b.data.toList))
    | .gtr => some (.bool (!(Op.bytesLess a.data.toList b.data.toList || a.data.toList == b.data.toList)))
    | .geq => some (.bool (!Op.bytesLess a.data.toList b.data.toList))
    | _ => none
  | _, _ =>
    match op with
    | .eql => (aeq P cst t x y).bind fun b => some (.bool b)
    | .neq => (aeq P cst t x y).bind fun b => some (.bool (!b))
    | _ => none

def aun (op : UnOp) (x : Value) : Option Value :=
  match op, x with
  | .neg, .int k n => some (.int k (k.wrap (0 - n)))
  | .not, .bool b => some (.bool (!b))
  | _, _ => none

def bytesOfCells : List Value → Option (List UInt8)
  | [] => some []
  | .int .u8 n :: r => (bytesOfCells r).bind fun q => some (UInt8.ofNat n.toNat :: q)
  | _ :: _ => none

def aconvert (P : Program) (src dst : TypeId) (x : Value) (M : Store) : Option (Value × Store) :=
  match P.underlying src, P.underlying dst, x with
  | some (.int _), some (.int k), .int _ n => some (.int k (k.wrap n), M)
  | some .string, some .string, .string s => some (.string s, M)
  | some .string, some (.slice e), .string s =>
    match P.underlying e with
    | some (.int .u8) => if 2 ^ 40 < s.size || szOf P e != some 1 then none else
      some (.slice (some ⟨M.n, 0, none⟩) s.size (s.size + 1), M.push (some (.inl (s.data.toList.map fun b => .int .u8 b.toNat, e, true))))
    | _ => none
  | some (.slice e), some (.slice _), .slice (some ⟨b, o, none⟩) n c =>
    match P.underlying e, M.get b with
    | some (.int .u8), some (.inl (cs, t, true)) => if src = dst ∧ 0 < n then some (.slice (some ⟨b, o, none⟩) n c, M.set b (some (.inl (cs, t, true)))) else none
    | _, _ => none
  | some (.slice e), some .string, .slice a n _ =>
    match P.underlying e, a with
    | some (.int .u8), none => some (.string .empty, M)
    | some (.int .u8), some ⟨b, o, none⟩ => if n = 0 then some (.string .empty, M) else
      (rowOf M b o n).bind fun cs => (bytesOfCells cs).bind fun l => some (.string ⟨l.toArray⟩, M)
    | _, _ => none
  | _, _, _ => none

def amakeSlice (P : Program) (t : TypeId) (l c : Value) (M : Store) : Option (Value × Store) :=
  match P.underlying t, l, c with
  | some (.slice e), .int .i64 l, .int .i64 c =>
    (szOf P e).bind fun s => (byOf P e).bind fun by_ => (zrOf P e).bind fun z =>
    if 0 ≤ l ∧ l ≤ c ∧ c ≤ 2 ^ 40 ∧ by_ * c ≤ 2 ^ 40 ∧ z.cells.all plainV = true ∧ 0 < s then
      some (.slice (some ⟨M.n, 0, none⟩) l.toNat (if l = c then l.toNat else l.toNat + 1),
        M.push (some (.inl (zerosL z (l.toNat * s), e, true))))
    else none
  | _, _, _ => none

/-- What is appended: how many elements, and their cells. -/
def anews (P : Program) (e : TypeId) (xt : TypeId) (s : Nat) (x : Value) (M : Store) : Option (Nat × List Value) :=
  match P.underlying xt, x with
  | some (.int _), .int .i64 n => (zrOf P e).bind fun z =>
    if 0 ≤ n ∧ n ≤ 2 ^ 28 ∧ (byOf P e).getD 0 ≤ 2 ^ 12 ∧ z.cells.size = s ∧ z.cells.all plainV = true then some (n.toNat, zerosL z (n.toNat * s)) else none
  | some (.slice _), .slice none n _ => if n = 0 then some (0, []) else none
  | some (.slice _), .slice (some ⟨b, o, none⟩) n _ => if n = 0 then some (0, []) else (rowOf M b o (n * s)).bind fun cs => some (n, cs)
  | some .string, .string str => if s = 1 then some (str.size, str.data.toList.map fun b => .int .u8 b.toNat) else none
  | _, _ => none

/-- A slice type's elements. -/
def sliceT : Option TypeDesc → Option TypeId
  | some (.slice e) => some e
  | _ => none
/-- A slice with elements behind it, in memory, and what it grows to. -/
def agrow (base : Option Addr) (n cap s : Nat) (e : TypeId) (m : Nat) (ys : List Value) (M : Store) : Option (Value × Store) :=
  match base with
  | none => if n = 0 then some (.slice (some ⟨M.n, 0, none⟩) (n + m) (n + m + 1), M.push (some (.inl (ys, e, true)))) else none
  | some ⟨b, o, none⟩ =>
    if cap = n then
      if n = 0 then some (.slice (some ⟨M.n, 0, none⟩) (n + m) (n + m + 1), M.push (some (.inl (ys, e, true)))) else
      (rowOf M b o (n * s)).bind fun old =>
        some (.slice (some ⟨M.n, 0, none⟩) (n + m) (n + m + 1), M.push (some (.inl (old ++ ys, e, true))))
    else if cap = n + 1 then
      match M.get b with
      | some (.inl (c, e', true)) =>
        if o = 0 ∧ n * s ≤ c.length ∧ e' = e then
          some (.slice (some ⟨M.n, 0, none⟩) (n + m) (n + m + 1), (M.set b none).push (some (.inl (c.take (n * s) ++ ys, e, true))))
        else none
      | _ => none
    else none
  | _ => none

def aappend (P : Program) (ts : Array TypeId) (v x : Value) (M : Store) : Option (Value × Store) :=
  (ts[0]?).bind fun t => (ts[1]?).bind fun xt => (sliceT (P.underlying t)).bind fun e =>
  (szOf P e).bind fun s => (byOf P e).bind fun by_ => (zrOf P e).bind fun z => (anews P e xt s x M).bind fun my =>
  match v with
  | .slice base n cap =>
    if my.1 = 0 then some (.slice base n cap, M) else
    if n + my.1 ≤ 2 ^ 28 ∧ by_ ≤ 2 ^ 12 ∧ 0 < s ∧ z.cells.size = s then agrow base n cap s e my.1 my.2 M else none
  | _ => none

def acopy (P : Program) (ts : Array TypeId) (v x : Value) (M : Store) : Option (Value × Store) :=
  (ts[0]?).bind fun t => (sliceT (P.underlying t)).bind fun e => (szOf P e).bind fun s =>
  match v, x with
  | .slice base n _, .slice src m _ =>
    if min m n = 0 then some (goInt 0, M) else
    match base, src with
    | some ⟨b, o, none⟩, some ⟨b', o', none⟩ =>
      (rowOf M b' o' (min m n * s)).bind fun cs =>
      match M.get b with
      | some (.inl (c, e', true)) =>
        if o + min m n * s ≤ c.length then some (goInt (min m n : Nat), M.set b (some (.inl (splice c o cs, e', true)))) else none
      | _ => none
    | _, _ => none
  | _, _ => none

def alen (P : Program) (t : TypeId) (x : Value) (M : Store) : Option Value :=
  match P.underlying t, x with
  | some .string, .string s => some (goInt s.size)
  | some (.slice _), .slice _ n _ => some (goInt n)
  | some (.array n _), _ => some (goInt n)
  | some (.map _ _), .map none => some (goInt 0)
  | some (.map _ _), .map (some r) => match M.get r with
    | some (.inr (.inl es)) => some (goInt es.length)
    | _ => none
  | _, _ => none

/-- A capacity that is known. -/
def acap (P : Program) (t : TypeId) (x : Value) : Option Value :=
  match P.underlying t, x with
  | some (.slice _), .slice _ n c => if c = n then some (goInt n) else none
  | _, _ => none

def amin2 : Value → Value → Option Value
  | .int k x, .int _ y => some (.int k (if y < x then y else x))
  | _, _ => none
def amax2 : Value → Value → Option Value
  | .int k x, .int _ y => some (.int k (if y > x then y else x))
  | _, _ => none

/-- A key that is compared at once. -/
def keyV : TypeDesc → Value → Bool
  | .int k, .int j _ => k == j
  | .string, .string _ => true
  | .bool, .bool _ => true
  | _, _ => false

def keyEq : Value → Value → Bool
  | .int _ a, .int _ b => a == b
  | .string a, .string b => a == b
  | .bool a, .bool b => a == b
  | _, _ => false

def afind (k : Value) : List (Value × Value) → Nat → Option (Nat × Value)
  | [], _ => none
  | (q, v) :: r, i => if keyEq k q then some (i, v) else afind k r (i + 1)

def alookup (P : Program) (t : TypeId) (x k : Value) (ok : Bool) (M : Store) : Option Value :=
  match P.underlying t with
  | some (.map kt e) => (P.underlying kt).bind fun kd => if !keyV kd k then none else (zrOf P e).bind fun z =>
    if !(z.cells.all plainV) then none else
    let es := match x with
      | .map none => some []
      | .map (some r) => match M.get r with
        | some (.inr (.inl es)) => some es
        | _ => none
      | _ => none
    es.bind fun es => if !(es.all fun e => keyV kd e.1) then none else
    let r := match afind k es 0 with
      | some (_, v) => (v, true)
      | none => (z, false)
    some (if ok then .tuple #[r.1, .bool r.2] else r.1)
  | _ => none

def amapUpdate (P : Program) (t : TypeId) (x k v : Value) (M : Store) : Option Store :=
  match P.underlying t, x with
  | some (.map kt _), .map (some r) => (P.underlying kt).bind fun kd => if !keyV kd k then none else
    if !(v.cells.all (·.oneCell')) then none else
    match M.get r with
    | some (.inr (.inl es)) => if !(es.all fun e => keyV kd e.1) then none else
      match afind k es 0 with
      | some (i, _) => some (M.set r (some (.inr (.inl (es.set i (k, v))))))
      | none => some (M.set r (some (.inr (.inl (es ++ [(k, v)])))))
    | _ => none
  | _, _ => none

def adelete (P : Program) (t : TypeId) (x k : Value) (M : Store) : Option Store :=
  match P.underlying t, x with
  | some (.map kt _), .map (some r) => (P.underlying kt).bind fun kd => if !keyV kd k then none else
    match M.get r with
    | some (.inr (.inl es)) => if !(es.all fun e => keyV kd e.1) then none else
      match afind k es 0 with
      | some (i, _) => some (M.set r (some (.inr (.inl (es.eraseIdx i)))))
      | none => some (M.set r (some (.inr (.inl es))))
    | _ => none
  | _, _ => none

def abuiltin (P : Program) (b : Builtin) (ts : Array TypeId) (args : Array Value) (M : Store) : Option (Value × Store) :=
  match b, args.toList with
  | .append, [v, x] => aappend P ts v x M
  | .len, [x] => (ts[0]?).bind fun t => (alen P t x M).bind fun v => some (v, M)
  | .min, [x, y] => (amin2 x y).bind fun v => some (v, M)
  | .cap, [x] => (ts[0]?).bind fun t => (acap P t x).bind fun v => some (v, M)
  | .max, [x, y] => (amax2 x y).bind fun v => some (v, M)
  | .copy, [v, x] => acopy P ts v x M
  | .delete, [m, k] => (ts[0]?).bind fun t => (adelete P t m k M).bind fun M => some (.tuple #[], M)
  | _, _ => none

/-- One cell that is no function and no interface's value. -/
def basicV : Value → Bool
  | .func _ _ _ | .iface _ _ | .agg _ | .tuple _ => false
  | _ => true

def notYield : Fn → Bool
  | .yield _ => false
  | _ => true

def isConstO : Operand → Bool
  | .const _ => true
  | _ => false

/-- What an operation yields: a value, or a call that is to be made (true: of a function; false: of a loop's round). -/
def aop (P : Program) (ρ : Operand → Value) (o : Op) (M : Store) : Option (Sum Value (Bool × Nat × Array Value) × Store) :=
  let v (r : Option Value) : Option (Sum Value (Bool × Nat × Array Value) × Store) := r.bind fun x => some (.inl x, M)
  let vs (r : Option (Value × Store)) : Option (Sum Value (Bool × Nat × Array Value) × Store) := r.bind fun x => some (.inl x.1, x.2)
  let u (r : Option Store) : Option (Sum Value (Bool × Nat × Array Value) × Store) := r.bind fun x => some (.inl undef, x)
  match o with
  | .move x | .assign x => some (.inl (ρ x), M)
  | .pick c a b => match ρ c with
    | .bool t => some (.inl (if t then ρ a else ρ b), M)
    | _ => none
  | .alloc t => vs (aalloc P t M)
  | .box t x => vs (abox t (ρ x) M)
  | .build t ps => v (abuild P t (ps.map fun (i, x) => (i, ρ x)))
  | .buildSlice t n ps => vs (abuildSlice P t n (ps.map fun (i, x) => (i, ρ x)) M)
  | .load t a => v (aload P t (ρ a) M)
  | .store t a x => u (astore P t (ρ a) (ρ x) M)
  | .nilCheck x => match ρ x with
    | .pointer (some a) => some (.inl (.pointer (some a)), M)
    | _ => none
  | .binOp op t x y _ => v (abin P (isConstO x || isConstO y) op t (ρ x) (ρ y))
  | .unOp op _ x => v (aun op (ρ x))
  | .convert s d x => vs (aconvert P s d (ρ x) M)
  | .makeInterface t x => match P.underlying t with
    | some (.interface _) => none
    | some _ => if basicV (ρ x) then some (.inl (.iface t (ρ x)), M) else none
    | none => none
  | .makeFunc fn first captured =>
    if notYield fn && ((first.map ρ).all basicV && (captured.map ρ).all basicV) then some (.inl (.func fn (first.map ρ) (captured.map ρ)), M) else none
  | .makeMap t r => match P.underlying t, r with
    | some (.map _ _), none => some (.inl (.map (some M.n)), M.push (some (.inr (.inl []))))
    | _, _ => none
  | .makeSlice t l c => vs (amakeSlice P t (ρ l) (ρ c) M)
  | .slice t x lo hi mx => v (aslice P t (ρ x) (lo.map ρ) (hi.map ρ) (mx.map ρ) M)
  | .fieldAddr t x f => v (afieldAddr P t (ρ x) f)
  | .field t x f => v (afield P t (ρ x) f)
  | .indexAddr t x i => v (aindexAddr P t (ρ x) (ρ i))
  | .index t x i => v (aindex P t (ρ x) (ρ i))
  | .lookup t x k ok => v (alookup P t (ρ x) (ρ k) ok M)
  | .mapUpdate t m k x => u (amapUpdate P t (ρ m) (ρ k) (ρ x) M)
  | .extract t i => match ρ t with
    | .tuple vs => v (vs[i]?)
    | _ => none
  | .call c =>
    match c.callee with
    | .builtin b => vs (abuiltin P b c.argTypes (c.args.map ρ) M)
    | .value f => match ρ f with
      | .func (.func g) first captured => some (.inr (true, g, first ++ c.args.map ρ ++ captured), M)
      | .func (.yield l) first _ => some (.inr (false, l, first ++ c.args.map ρ), M)
      | _ => none
    | .invoke _ _ => none
  | _ => none

abbrev ACall := Bool → Nat → Array Value → Store → Option (Value × Store)

def AAct.yielded (ops : Array Oper) (a : AAct) (j : Nat) : Option Bool :=
  match (ops[j]?).bind (·.dst) with
  | some d => match a.t.get d with
    | .bool b => some b
    | _ => none
  | none => none

def aops (P : Program) (call : ACall) (ops : Array Oper) : List Oper → AAct → Store → Option (AAct × Store)
  | [], a, M => some (a, M)
  | o :: rest, a, M =>
    if Region.wanted o (AAct.yielded ops a) then
      match aop P a.eval o.op M with
      | some (.inl v, M') => aops P call ops rest (a.put o.dst v) M'
      | some (.inr (g, f, args), M') => match call g f args M' with
        | some (v, M'') => aops P call ops rest (a.put o.dst v) M''
        | none => none
      | none => none
    else aops P call ops rest (a.put o.dst undef) M

def astep (P : Program) (call : ACall) (ops : Array Oper) (o : Oper) (a : AAct) (M : Store) : Option (AAct × Store) :=
  if Region.wanted o (AAct.yielded ops a) then
    match aop P a.eval o.op M with
    | some (.inl v, M') => some (a.put o.dst v, M')
    | some (.inr (g, f, args), M') => match call g f args M' with
      | some (v, M'') => some (a.put o.dst v, M'')
      | none => none
    | none => none
  else some (a.put o.dst undef, M)

/-- All states, the first and the last too. -/
def arun (P : Program) (call : ACall) (ops : Array Oper) : List Oper → AAct → Store → Option (List (AAct × Store))
  | [], a, M => some [(a, M)]
  | o :: r, a, M => match astep P call ops o a M with
    | some (a', M') => (arun P call ops r a' M').bind fun L => some ((a, M) :: L)
    | none => none

/-! Which operations stand before which, whatever order is drawn: as bits. -/
def befMask (bs : List Nat) (o : Oper) : Nat :=
  o.after.toList.foldl (fun m e => if Region.binds .any e then m ||| 2 ^ e.on ||| bs.getD e.on 0 else m) 0
def befs : List Oper → List Nat → List Nat
  | [], acc => acc
  | o :: r, acc => befs r (acc ++ [befMask acc o])

/-- A region whose operations read what stands before them, and write each its own. -/
def drawOk (ops : Array Oper) : Bool :=
  let bs := befs ops.toList []
  (List.range ops.size).all fun i => match ops[i]? with
    | none => false
    | some o => bs.getD i 0 == befMask bs o && (o.after.toList.all (fun e => !Region.binds .any e || decide (e.on < i)) &&
      (List.range ops.size).all fun j => match ops[j]? with
        | none => false
        | some q => match q.dst with
          | none => true
          | some d => (!(o.looksAt ops).contains d || ((bs.getD i 0).testBit j || (bs.getD j 0).testBit i)) && (i == j || o.dst != some d))

def tdiff (M M' : Store) : List Nat := M'.log.take (M'.log.length - M.log.length)

/-- The places that a value names at once. -/
def idsV : Value → List Nat
  | .pointer (some a) => [a.block]
  | .slice (some a) _ _ => [a.block]
  | .map (some r) => [r]
  | _ => []

def lightO : Op → Bool
  | .convert s d _ => s != d
  | .move _ | .assign _ | .pick _ _ _ | .alloc _ | .box _ _ | .build _ _ | .buildSlice _ _ _ | .load _ _ | .nilCheck _ | .binOp _ _ _ _ _ | .unOp _ _ _ | .makeInterface _ _ | .makeFunc _ _ _
  | .makeMap _ none | .makeSlice _ _ _ | .slice _ _ _ _ _ | .fieldAddr _ _ _ | .field _ _ _ | .indexAddr _ _ _ | .index _ _ _ | .lookup _ _ _ _ | .extract _ _ => true
  | .call c => match c.callee with
    | .builtin .len | .builtin .min | .builtin .max | .builtin .cap => true
    | _ => false
  | _ => false

/-- What a light operation reads. -/
def readIds (ρ : Operand → Value) : Op → List Nat
  | .load _ a => idsV (ρ a)
  | .convert _ _ x => idsV (ρ x)
  | .slice _ x _ _ _ => idsV (ρ x)
  | .lookup _ x _ _ => idsV (ρ x)
  | .call c => c.args.toList.flatMap fun x => idsV (ρ x)
  | _ => []

def accB (bs Ns : List Nat) (i b : Nat) : Bool :=
  decide (b < Ns.getD 0 0) || (List.range i).any fun j => (bs.getD i 0).testBit j && (decide (Ns.getD j 0 ≤ b) && decide (b < Ns.getD (j + 1) 0))
def rdB (ops : Array Oper) (L : List (AAct × Store)) (bs Ns : List Nat) (k b : Nat) : Bool :=
  match ops[k]?, L[k]? with
  | some o, some s => accB bs Ns k b && (!lightO o.op || (readIds s.1.eval o.op).contains b)
  | _, _ => true

/-- No operation touches what another one reads, but for what stands in order. -/
def cfOk (ops : Array Oper) (L : List (AAct × Store)) : Bool :=
  ((List.range ops.size).all fun i => match L[i]?, L[i + 1]? with
    | some s, some s' => (tdiff s.2 s'.2).all fun b => decide (s.2.n ≤ b)
    | _, _ => false) ||
  (let bs := befs ops.toList []
   let Ns := L.map (·.2.n)
   (List.range ops.size).all fun i => match L[i]?, L[i + 1]? with
    | some s, some s' => (tdiff s.2 s'.2).all fun b => decide (s.2.n ≤ b) || ((s.2.get b).isSome && (accB bs Ns i b &&
        (List.range ops.size).all fun k => k == i || (!rdB ops L bs Ns k b || ((bs.getD i 0).testBit k || (bs.getD k 0).testBit i))))
    | _, _ => false)

def adraw (P : Program) (call : ACall) (ops : Array Oper) (a : AAct) (M : Store) : Option (AAct × Store) :=
  (arun P call ops ops.toList a M).bind fun L => if cfOk ops L then L[ops.size]? else none

def aloop (step : AAct → Store → Option (AExit × AAct × Store)) : Nat → AAct → Store → Option (AExit × AAct × Store)
  | 0, _, _ => none
  | n + 1, a, M => match step a M with
    | some (0, a', M') => aloop step n a' M'
    | r => r

/-- A loop's record. -/
def recOf (M : Store) (l : Nat) : Option LRec :=
  match M.get l with
  | some (.inr (.inr (some r))) => some r
  | _ => none
def putRec (M : Store) (l : Nat) (r : LRec) : Store := M.set l (some (.inr (.inr (some r))))

/-- A range over a function begins: the record, and, outside of a round, the block for deferred calls and its mark. -/
def aenter (rd : Option Nat) (ps : Array Tmp) (x y : Code) (a : AAct) (M : Store) : Option (AAct × Store) :=
  match rd with
  | none => some ({ a with defers := { target := .collected M.n, args := #[] } :: a.defers },
      (M.push (some (.inr (.inr none)))).push (some (.inr (.inr (some ⟨.ready, 0, a.t, ps, x, y⟩)))))
  | some l => (recOf M l).bind fun _ => some (a, M.push (some (.inr (.inr (some ⟨.ready, 0, a.t, ps, x, y⟩)))))

def acode (P : Program) (call : ACall) (k : Nat) (rd : Option Nat) : Code → AAct → Store → Option (AExit × AAct × Store)
  | .skip, a, M => some (0, a, M)
  | .region _ ops draw, a, M => (if draw then adraw P call ops a M else aops P call ops ops.toList a M).bind fun r => some (0, r.1, r.2)
  | .seq x y, a, M => match acode P call k rd x a M with
    | some (0, a', M') => acode P call k rd y a' M'
    | r => r
  | .cond c x y, a, M => match a.eval c with
    | .bool t => if t then acode P call k rd x a M else acode P call k rd y a M
    | _ => none
  | .block id c, a, M => match acode P call k rd c a M with
    | some (e, a', M') => some (if e = id + 2 then 0 else e, a', M')
    | none => none
  | .loop c, a, M => aloop (acode P call k rd c) k a M
  | .exit id, a, M => some (id + 2, a, M)
  | .ret, a, M => some (1, a, M)
  | .rangeFunc g ps x y, a, M => match a.eval g with
    | .func (.func f) first captured => (aenter rd ps x y a M).bind fun s =>
      (call true f (first ++ #[.func (.yield (s.2.n - 1)) #[] #[]] ++ captured) s.2).bind fun q =>
      (recOf q.2 (s.2.n - 1)).bind fun r => if r.st == .busy then none else some (r.pe, s.1, putRec q.2 (s.2.n - 1) { r with st := .exhausted })
    | _ => none
  | _, _, _ => none

/-- A function's results. -/
def ares (P : Program) (rs : List ResultVar) (a : AAct) (M : Store) : Option (List Value) :=
  match rs with
  | [] => some []
  | .tmp t :: r => (ares P r a M).bind fun q => some (a.get t :: q)
  | .cell t ty :: r => (aload P ty (a.get t) M).bind fun v => (ares P r a M).bind fun q => some (v :: q)

def notTuple : Value → Bool
  | .tuple _ => false
  | _ => true

def atuple : List Value → Value
  | [v] => v
  | vs => .tuple vs.toArray

/-- The blocks for deferred calls are shut, empty as they are. -/
def atake : List Deferred → Store → Option Store
  | [], M => some M
  | d :: ds, M => match d.target with
    | .collected r => match M.get r with
      | some (.inr (.inr none)) => atake ds (M.set r none)
      | _ => none
    | _ => none

/-- A call, by so much fuel; 'ext': functions whose answer is given. -/
def acall (P : Program) (ext : FuncId → Option (Array Value → Store → Option (Value × Store))) : Nat → ACall
  | 0, _, _, _, _ => none
  | k + 1, true, f, args, M =>
    match ext f with
    | some g => g args M
    | none =>
      match P.funcs[f]? with
      | some fn => match fn.body with
        | some body =>
          if fn.name == "runtime.NumGoroutine" then none else
          match acode P (acall P ext k) k none body (AAct.enter fn.ntmps args.toList) M with
          | some (e, a, M') => if e ≤ 1 then (atake a.defers M').bind fun M' => (ares P fn.results.toList a M').bind fun vs => if vs.all notTuple then some (atuple vs, M') else none else none
          | none => none
        | none => none
      | none => none
  | k + 1, false, l, args, M =>
    (recOf M l).bind fun r => if args.size = r.params.size then
      match acode P (acall P ext k) k (some l) r.assign ⟨(r.params.toList.zip args.toList).foldl (fun t pv => t.put pv.1 pv.2) r.tmps, []⟩ M with
      | some (0, a1, M1) => (recOf M1 l).bind fun r1 => if r1.st == .ready then
          (acode P (acall P ext k) k (some l) r.body a1 (putRec M1 l { r1 with st := .busy })).bind fun q =>
          (recOf q.2.2 l).bind fun r3 => some (.bool (q.1 == 0), putRec q.2.2 l { r3 with st := if q.1 == 0 then .ready else .done, pe := q.1 })
          else none
      | _ => none
      else none

/-- A constant that names no place. -/
def constOk : Operand → Bool
  | .tmp _ => true
  | .const (.agg cs) => cs.all plainV
  | .const v => plainV v
  | .func _ => true
  | .global _ => false
def operOk (o : Oper) : Bool := o.op.operands.all constOk
def codeOk : Code → Bool
  | .region _ ops draw => ops.all operOk && (!draw || drawOk ops)
  | .seq a b => codeOk a && codeOk b
  | .cond c a b => constOk c && codeOk a && codeOk b
  | .block _ c => codeOk c
  | .loop c => codeOk c
  | .rangeFunc g _ a b => constOk g && codeOk a && codeOk b
  | _ => true

end Go.Ab
