/- ... -/
import Derived.WalkKit
import Derived.WalkSpells
import Derived.WalkLawsBesides
import Derived.Orders
import Derived.MapKept
namespace Go.Ab
def a7 : List Nat := [1, 2, 5]
def gsz : List Nat := [1, 1, 20]
end Go.Ab

set_option linter.unusedVariables false
set_option linter.unusedSimpArgs false
namespace Go.Ab
structure PT where
 n : Nat
 f : Nat → Value
def PT.get (t : PT) (i : Nat) : Value := bif Nat.blt i t.n then t.f i else undef
def PT.has (t : PT) (i : Nat) : Bool := Nat.blt i t.n
def PT.put (t : PT) (i : Nat) (v : Value) : PT := ⟨t.n, fun j => bif Nat.beq j i then v else t.f j⟩
def PT.fill (_ n : Nat) : PT := ⟨n, fun _ => undef⟩
theorem PT.has_put (t : PT) (i : Nat) (v : Value) (j : Nat) : (t.put i v).has j = t.has j := rfl
theorem PT.get_put (t : PT) (i : Nat) (v : Value) (j : Nat) : (t.put i v).get j = if i = j ∧ t.has j = true then v else t.get j := by
 simp only [PT.put, PT.get, PT.has]
 rcases Bool.eq_false_or_eq_true (Nat.blt j t.n) with h2 | h2
 rotate_left
 ·simp only [h2]; simp
 ·simp only [h2]
  cases h1 : Nat.beq j i
  ·rw [if_neg]
   ·rfl
   rintro ⟨rfl, _⟩
   simp at h1
  ·obtain rfl := Nat.eq_of_beq_eq_true h1
   simp
theorem PT.has_fill (k n i : Nat) (h : n ≤ k) : (PT.fill k n).has i = true ↔ i < n := by simp only [PT.has, PT.fill, Nat.blt_eq]
theorem PT.get_fill (k n i : Nat) : (PT.fill k n).get i = undef := by simp only [PT.get, PT.fill]; cases Nat.blt i n <;> rfl
theorem PT.get_none (t : PT) (i : Nat) (h : t.has i = false) : t.get i = undef := by simp only [PT.get]; simp only [PT.has] at h; rw [h]; rfl
def gix : List Nat → Nat → Nat → Option Nat
 | [], _, _ => none
 | x :: r, k, g => bif Nat.beq x g then some k else gix r (k + 1) g
def m8 (g : Nat) : Addr := match gix a7 0 g with
 | some i => ⟨i, 0, none⟩
 | none => ⟨g, 0, some 0⟩
structure AAct where
 t : PT
 defers : List Deferred
def AAct.get (a : AAct) (i : Nat) : Value := a.t.get i
def AAct.put (a : AAct) (d : Option Tmp) (v : Value) : AAct :=
 match d with
 | none => a
 | some d => { a with t := a.t.put d v }
def AAct.eval (a : AAct) : Operand → Value
 | .tmp t => a.t.get t
 | .const v => v
 | .global g => .pointer (some (m8 g))
 | .func f => .func (.func f) #[] #[]
def AAct.enter (n : Nat) (args : List Value) : AAct := ⟨(args.foldl (fun (p : Nat × PT) v => (p.1 + 1, p.2.put p.1 v)) (0, PT.fill (max n args.length) (max n args.length))).2, []⟩
end Go.Ab

set_option linter.unusedVariables false
set_option linter.unusedSimpArgs false
namespace Go.Ab
open Go.RowKit
abbrev cK := Nat
structure ic where
 st : LoopState
 pe : cK
 tmps : PT
 params : Array Tmp
 assign : Code
 body : Code
abbrev aJ := Option (Sum (List Value × TypeId × Bool) (Sum (List (Value × Value)) (Option ic)))
structure Store where
 n : Nat
 l : List aJ
 log : List Nat
def Store.get (M : Store) (i : Nat) : aJ := if i < M.n then (M.l[M.n - 1 - i]?).getD none else none
def Store.push (M : Store) (o : aJ) : Store := { n := M.n + 1, l := o :: M.l, log := M.log }
def Store.set (M : Store) (i : Nat) (o : aJ) : Store :=
 if i < M.n then { n := M.n, l := M.l.set (M.n - 1 - i) o, log := i :: M.log } else M
def aB (P : Program) (t : TypeId) : Option Nat := (P.info? t).map (·.size)
def dx (P : Program) (t : TypeId) : Option Nat := (P.info? t).map (·.bytes)
def bX (P : Program) (t : TypeId) : Option Value := (P.info? t).bind (·.zero)
def gO : TypeDesc → Bool
 | .struct _ => true
 | .array _ _ => true
 | _ => false
def ao : Value → Bool
 | .int _ _ | .bool _ | .string _ | .pointer none | .map none | .nilFunc | .nilIface => true
 | .slice none n c => n == 0 && c == 0
 | _ => false
def b8 (M : Store) (b o n : Nat) : Option (List Value) :=
 match M.get b with
 | some (.inl (c, _, _)) => if o + n ≤ c.length then some ((c.drop o).take n) else none
 | _ => none
def fG (d : TypeDesc) (cs : List Value) : Option Value :=
 if gO d then some (.agg cs.toArray) else match cs with
  | [v] => some v
  | _ => none
def ee (P : Program) (t : TypeId) (a : Value) (M : Store) : Option Value :=
 match a with
 | .pointer (some ⟨b, o, none⟩) =>
  (P.underlying t).bind fun d => (aB P t).bind fun s => (b8 M b o s).bind fun cs => fG d cs
 | _ => none
def aS (c : List Value) (o : Nat) (l : List Value) : List Value := c.take o ++ l ++ c.drop (o + l.length)
def jm (P : Program) (t : TypeId) (a v : Value) (M : Store) : Option Store :=
 match a with
 | .pointer (some ⟨b, o, none⟩) =>
  match M.get b with
  | some (.inl (c, e, true)) =>
   if aB P t = some v.cells.size ∧ o + v.cells.size ≤ c.length ∧ v.cells.all (·.oneCell') = true then
    some (M.set b (some (.inl (aS c o v.cells.toList, e, true)))) else none
  | _ => none
 | _ => none
def fZ (P : Program) (t : TypeId) (M : Store) : Option (Value × Store) :=
 (bX P t).bind fun z => if z.cells.all ao then
  some (.pointer (some ⟨M.n, 0, none⟩), M.push (some (.inl (z.cells.toList, t, true)))) else none
def kq (t : TypeId) (v : Value) (M : Store) : Option (Value × Store) :=
 if v.cells.all (·.oneCell') then
  some (.pointer (some ⟨M.n, 0, none⟩), M.push (some (.inl (v.cells.toList, t, true)))) else none
def fK (P : Program) : List Field → Option (List (Nat × Nat))
 | [] => some []
 | f :: r => (aB P f.type).bind fun s => (fK P r).bind fun q => some ((f.offset, s) :: q)
def jd (P : Program) (t : TypeId) (parts : Array (Nat × Value)) : Option Value :=
 (bX P t).bind fun z => if z.cells.all ao && parts.all (fun p => p.2.cells.all (·.oneCell')) then
  match P.underlying t with
  | some (.struct fs) => (fK P fs.toList).bind fun q => (Instr.fill (q[·]?) z.cells parts.toList).bind fun c => some (.agg c)
  | some (.array _ e) => (aB P e).bind fun s => (Instr.fill (fun i => some (i * s, s)) z.cells parts.toList).bind fun c => some (.agg c)
  | _ => none
  else none
def aj (z : Value) (n : Nat) : Array Value := (Array.range n).map (z.cells[· % z.cells.size]!)
def fj (z : Value) (n : Nat) : List Value := match z.cells.toList with
 | [c] => List.replicate n c
 | _ => (aj z n).toList
theorem mS (z : Value) (n : Nat) : fj z n = (aj z n).toList := by
 unfold fj
 split
 ·rename_i c h
  have hz : z.cells = #[c] := by apply Array.toList_inj.1; simpa using h
  unfold aj
  rw [hz]
  simp only [Array.toList_map, Array.toList_range]
  apply List.ext_getElem
  ·simp
  ·intro i h1 h2
   simp [Nat.mod_one]
 ·rfl
def co (P : Program) (t : TypeId) (len : Nat) (parts : Array (Nat × Value)) (M : Store) : Option (Value × Store) :=
 match P.underlying t with
 | some (.slice e) => (aB P e).bind fun s => (bX P e).bind fun z =>
  if len * s ≤ 2 ^ 24 && (0 < s && z.cells.all ao && parts.all (fun p => p.2.cells.all (·.oneCell'))) then
   (Instr.fill (fun i => some (i * s, s)) (aj z (len * s)) parts.toList).bind fun c =>
    some (.slice (some ⟨M.n, 0, none⟩) len len, M.push (some (.inl (c.toList, e, true))))
  else none
 | _ => none
def ax (x : Option Value) (y d : Nat) : Option Nat :=
 match x with
 | none => some d
 | some (.int _ i) => if 0 ≤ i ∧ i ≤ (y : Int) then some i.toNat else none
 | _ => none
def bJ (M : Store) (a : Option Addr) (e : TypeId) : Bool :=
 match a with
 | none => true
 | some a => match M.get a.block with
  | some (.inl (_, e', own)) => !own || e' == e
  | _ => false
def dA (P : Program) (t : TypeId) (x : Value) (lo hi mx : Option Value) (M : Store) : Option Value :=
 match P.underlying t, x with
 | some .string, .string s =>
  if mx.isSome then none else
  (ax hi s.size s.size).bind fun h => (ax lo h 0).bind fun l => some (.string (s.extract l h))
 | some (.slice e), .slice a len cap =>
  (aB P e).bind fun size =>
  match mx with
  | none =>
   (ax hi len len).bind fun h => (ax lo h 0).bind fun l =>
    if l = h || bJ M a e then
     some (.slice (a.map (·.add (l * size))) (h - l) (if cap = len ∧ h = len then h - l else if l = h ∧ ¬ (l = 0 ∧ (0 < len ∨ cap = len + 1) ∧ bJ M a e = true) then h - l + 2 else h - l + 1))
    else none
  | some m =>
   (ax (some m) len len).bind fun m => if hi.isNone then none else
   (ax hi m m).bind fun h => (ax lo h 0).bind fun l =>
    if l = h || bJ M a e then
     some (.slice (a.map (·.add (l * size))) (h - l) (if h = m then h - l else h - l + 2))
    else none
 | _, _ => none
def fy (P : Program) (t : TypeId) (x : Value) (f : Nat) : Option Value :=
 match P.underlying t, x with
 | some (.struct fs), .pointer (some ⟨b, o, none⟩) =>
  (fs[f]?).bind fun fd => (aB P fd.type).bind fun s => if s = 0 then none else some (.pointer (some ⟨b, o + fd.offset, none⟩))
 | _, _ => none
def cB (P : Program) (t : TypeId) (cs : Array Value) (off : Nat) : Option Value :=
 (P.underlying t).bind fun d => (aB P t).bind fun s =>
  if off + s ≤ cs.size then fG d (cs.extract off (off + s)).toList else none
def kW (P : Program) (t : TypeId) (x : Value) (f : Nat) : Option Value :=
 match P.underlying t, x with
 | some (.struct fs), .agg cs => (fs[f]?).bind fun fd => cB P fd.type cs fd.offset
 | _, _ => none
def eb (P : Program) (t : TypeId) (x i : Value) : Option Value :=
 match P.underlying t, x, i with
 | some (.slice e), .slice (some a) len _, .int _ i =>
  (aB P e).bind fun s => if 0 ≤ i ∧ i < (len : Int) ∧ a.spot = none then some (.pointer (some ⟨a.block, a.off + i.toNat * s, none⟩)) else none
 | some (.array len e), .pointer (some a), .int _ i =>
  (aB P e).bind fun s => if 0 ≤ i ∧ i < (len : Int) ∧ a.spot = none then some (.pointer (some ⟨a.block, a.off + i.toNat * s, none⟩)) else none
 | _, _, _ => none
def jf (P : Program) (t : TypeId) (x i : Value) : Option Value :=
 match P.underlying t, x, i with
 | some (.array len e), .agg cs, .int _ i =>
  (aB P e).bind fun s => if 0 ≤ i ∧ i < (len : Int) then cB P e cs (i.toNat * s) else none
 | some .string, .string s, .int _ i => if 0 ≤ i then (s[i.toNat]?).bind fun b => some (.int .u8 b.toNat) else none
 | _, _, _ => none
def de (P : Program) (xs ys : Array Value) : List Field → Option Bool
 | [] => some true
 | f :: r =>
  if f.name = "_" then none else
  match P.underlying f.type, xs[f.offset]?, ys[f.offset]? with
  | some (.int _), some (.int k a), some (.int j b) => if k = j then (if a = b then de P xs ys r else some false) else none
  | some .string, some (.string a), some (.string b) => if a = b then de P xs ys r else some false
  | some .bool, some (.bool a), some (.bool b) => if a = b then de P xs ys r else some false
  | _, _, _ => none
def aeq (P : Program) (cst : Bool) (t : TypeId) (x y : Value) : Option Bool :=
 match P.underlying t, x, y with
 | some .bool, .bool a, .bool b => some (a == b)
 | some (.pointer _), .pointer none, .pointer b => some b.isNone
 | some (.pointer _), .pointer (some _), .pointer none => some false
 | some (.slice _), .slice none _ _, .slice b _ _ => some b.isNone
 | some (.slice _), .slice (some _) _ _, .slice none _ _ => some false
 | some (.map _ _), .map none, .map b => some b.isNone
 | some (.map _ _), .map (some _), .map none => some false
 | some (.func _ _ _), .nilFunc, .nilFunc => some true
 | some (.func _ _ _), .nilFunc, .func _ _ _ => some false
 | some (.func _ _ _), .func _ _ _, .nilFunc => some false
 | some (.interface _), .nilIface, .nilIface => if cst then some true else none
 | some (.interface _), .nilIface, .iface _ _ => some false
 | some (.interface _), .iface _ _, .nilIface => some false
 | some (.struct fs), .agg xs, .agg ys =>
  if P.stoodInHeld t || P.eqGuardType P.depth t then none else de P xs ys fs.toList
 | _, _, _ => none
def dv (P : Program) (cst : Bool) (op : BinOp) (t : TypeId) (x y : Value) : Option Value :=
 match x, y with
 | .int k a, .int j b =>
  match op with
  | .shl => if b < 0 then none else some (.int k (k.wrap (a * 2 ^ (min b.toNat k.bits))))
  | .shr => if b < 0 then none else some (.int k (a.fdiv (2 ^ (min b.toNat k.bits))))
  | _ => if k ≠ j then none else
   match op with
   | .add => some (.int k (k.wrap (a + b)))
   | .sub => some (.int k (k.wrap (a - b)))
   | .mul => some (.int k (k.wrap (a * b)))
   | .quo => if b = 0 then none else some (.int k (k.wrap (a.tdiv b)))
   | .rem => if b = 0 then none else some (.int k (a.tmod b))
   | .and => some (.int k (k.wrap (BitVec.ofInt k.bits a &&& BitVec.ofInt k.bits b).toNat))
   | .or => some (.int k (k.wrap (BitVec.ofInt k.bits a ||| BitVec.ofInt k.bits b).toNat))
   | .xor => some (.int k (k.wrap (BitVec.ofInt k.bits a ^^^ BitVec.ofInt k.bits b).toNat))
   | .eql => some (.bool (a == b))
   | .neq => some (.bool (a != b))
   | .lss => some (.bool (a < b))
   | .leq => some (.bool (a ≤ b))
   | .gtr => some (.bool (a > b))
   | .geq => some (.bool (a ≥ b))
   | _ => none
 | .string a, .string b =>
  match op with
  | .add => if a.size + b.size ≤ 2 ^ 40 then some (.string (a ++ b)) else none
  | .eql => some (.bool (a.data.toList == b.data.toList))
  | .neq => some (.bool (!(a.data.toList == b.data.toList)))
  | .lss => some (.bool (Op.bytesLess a.data.toList b.data.toList))
  | .leq => some (.bool (Op.bytesLess a.data.toList b.data.toList || a.data.toList == b.data.toList))
  | .gtr => some (.bool (!(Op.bytesLess a.data.toList b.data.toList || a.data.toList == b.data.toList)))
  | .geq => some (.bool (!Op.bytesLess a.data.toList b.data.toList))
  | _ => none
 | _, _ =>
  match op with
  | .eql => (aeq P cst t x y).bind fun b => some (.bool b)
  | .neq => (aeq P cst t x y).bind fun b => some (.bool (!b))
  | _ => none
def aun (op : UnOp) (x : Value) : Option Value :=
 match op, x with
 | .neg, .int k n => some (.int k (k.wrap (0 - n)))
 | .not, .bool b => some (.bool (!b))
 | _, _ => none
def bk : List Value → Option (List UInt8)
 | [] => some []
 | .int .u8 n :: r => (bk r).bind fun q => some (UInt8.ofNat n.toNat :: q)
 | _ :: _ => none
def bq (P : Program) (src dst : TypeId) (x : Value) (M : Store) : Option (Value × Store) :=
 match P.underlying src, P.underlying dst, x with
 | some (.int _), some (.int k), .int _ n => some (.int k (k.wrap n), M)
 | some .string, some .string, .string s => some (.string s, M)
 | some .string, some (.slice e), .string s =>
  match P.underlying e with
  | some (.int .u8) => if 2 ^ 40 < s.size || aB P e != some 1 then none else
   some (.slice (some ⟨M.n, 0, none⟩) s.size (s.size + 1), M.push (some (.inl (s.data.toList.map fun b => .int .u8 b.toNat, e, true))))
  | _ => none
 | some (.slice e), some (.slice _), .slice (some ⟨b, o, none⟩) n c =>
  match P.underlying e, M.get b with
  | some (.int .u8), some (.inl (cs, t, true)) => if src = dst ∧ 0 < n then some (.slice (some ⟨b, o, none⟩) n c, M.set b (some (.inl (cs, t, true)))) else none
  | _, _ => none
 | some (.slice e), some .string, .slice a n _ =>
  match P.underlying e, a with
  | some (.int .u8), none => some (.string .empty, M)
  | some (.int .u8), some ⟨b, o, none⟩ => if n = 0 then some (.string .empty, M) else
   (b8 M b o n).bind fun cs => (bk cs).bind fun l => some (.string ⟨l.toArray⟩, M)
  | _, _ => none
 | _, _, _ => none
def cP (P : Program) (t : TypeId) (l c : Value) (M : Store) : Option (Value × Store) :=
 match P.underlying t, l, c with
 | some (.slice e), .int .i64 l, .int .i64 c =>
  (aB P e).bind fun s => (dx P e).bind fun by_ => (bX P e).bind fun z =>
  if 0 ≤ l ∧ l ≤ c ∧ c ≤ 2 ^ 40 ∧ by_ * c ≤ 2 ^ 40 ∧ z.cells.all ao = true ∧ 0 < s then
   some (.slice (some ⟨M.n, 0, none⟩) l.toNat (if l = c then l.toNat else l.toNat + 1),
    M.push (some (.inl (fj z (l.toNat * s), e, true))))
  else none
 | _, _, _ => none
def dp (P : Program) (e : TypeId) (xt : TypeId) (s : Nat) (x : Value) (M : Store) : Option (Nat × List Value) :=
 match P.underlying xt, x with
 | some (.int _), .int .i64 n => (bX P e).bind fun z =>
  if 0 ≤ n ∧ n ≤ 2 ^ 28 ∧ (dx P e).getD 0 ≤ 2 ^ 12 ∧ z.cells.size = s ∧ z.cells.all ao = true then some (n.toNat, fj z (n.toNat * s)) else none
 | some (.slice _), .slice none n _ => if n = 0 then some (0, []) else none
 | some (.slice _), .slice (some ⟨b, o, none⟩) n _ => if n = 0 then some (0, []) else (b8 M b o (n * s)).bind fun cs => some (n, cs)
 | some .string, .string str => if s = 1 then some (str.size, str.data.toList.map fun b => .int .u8 b.toNat) else none
 | _, _ => none
def jE : Option TypeDesc → Option TypeId
 | some (.slice e) => some e
 | _ => none
def bL (base : Option Addr) (n cap s : Nat) (e : TypeId) (m : Nat) (ys : List Value) (M : Store) : Option (Value × Store) :=
 match base with
 | none => if n = 0 then some (.slice (some ⟨M.n, 0, none⟩) (n + m) (n + m + 1), M.push (some (.inl (ys, e, true)))) else none
 | some ⟨b, o, none⟩ =>
  if cap = n then
   if n = 0 then some (.slice (some ⟨M.n, 0, none⟩) (n + m) (n + m + 1), M.push (some (.inl (ys, e, true)))) else
   (b8 M b o (n * s)).bind fun old =>
    some (.slice (some ⟨M.n, 0, none⟩) (n + m) (n + m + 1), M.push (some (.inl (old ++ ys, e, true))))
  else if cap = n + 1 then
   match M.get b with
   | some (.inl (c, e', true)) =>
    if o = 0 ∧ n * s ≤ c.length ∧ e' = e then
     some (.slice (some ⟨M.n, 0, none⟩) (n + m) (n + m + 1), (M.set b none).push (some (.inl (c.take (n * s) ++ ys, e, true))))
    else none
   | _ => none
  else none
 | _ => none
def bZ (P : Program) (ts : Array TypeId) (v x : Value) (M : Store) : Option (Value × Store) :=
 (ts[0]?).bind fun t => (ts[1]?).bind fun xt => (jE (P.underlying t)).bind fun e =>
 (aB P e).bind fun s => (dx P e).bind fun by_ => (bX P e).bind fun z => (dp P e xt s x M).bind fun my =>
 match v with
 | .slice base n cap =>
  if my.1 = 0 then some (.slice base n cap, M) else
  if n + my.1 ≤ 2 ^ 28 ∧ by_ ≤ 2 ^ 12 ∧ 0 < s ∧ z.cells.size = s then bL base n cap s e my.1 my.2 M else none
 | _ => none
def m6 (P : Program) (ts : Array TypeId) (v x : Value) (M : Store) : Option (Value × Store) :=
 (ts[0]?).bind fun t => (jE (P.underlying t)).bind fun e => (aB P e).bind fun s =>
 match v, x with
 | .slice base n _, .slice src m _ =>
  if min m n = 0 then some (goInt 0, M) else
  match base, src with
  | some ⟨b, o, none⟩, some ⟨b', o', none⟩ =>
   (b8 M b' o' (min m n * s)).bind fun cs =>
   match M.get b with
   | some (.inl (c, e', true)) =>
    if o + min m n * s ≤ c.length then some (goInt (min m n : Nat), M.set b (some (.inl (aS c o cs, e', true)))) else none
   | _ => none
  | _, _ => none
 | _, _ => none
def eC (P : Program) (t : TypeId) (x : Value) (M : Store) : Option Value :=
 match P.underlying t, x with
 | some .string, .string s => some (goInt s.size)
 | some (.slice _), .slice _ n _ => some (goInt n)
 | some (.array n _), _ => some (goInt n)
 | some (.map _ _), .map none => some (goInt 0)
 | some (.map _ _), .map (some r) => match M.get r with
  | some (.inr (.inl es)) => some (goInt es.length)
  | _ => none
 | _, _ => none
def ny (P : Program) (t : TypeId) (x : Value) : Option Value :=
 match P.underlying t, x with
 | some (.slice _), .slice _ n c => if c = n then some (goInt n) else none
 | _, _ => none
def dE : Value → Value → Option Value
 | .int k x, .int _ y => some (.int k (if y < x then y else x))
 | _, _ => none
def dD : Value → Value → Option Value
 | .int k x, .int _ y => some (.int k (if y > x then y else x))
 | _, _ => none
def aV : TypeDesc → Value → Bool
 | .int k, .int j _ => k == j
 | .string, .string _ => true
 | .bool, .bool _ => true
 | _, _ => false
def eK : Value → Value → Bool
 | .int _ a, .int _ b => a == b
 | .string a, .string b => a == b
 | .bool a, .bool b => a == b
 | _, _ => false
def aH (k : Value) : List (Value × Value) → Nat → Option (Nat × Value)
 | [], _ => none
 | (q, v) :: r, i => if eK k q then some (i, v) else aH k r (i + 1)
def dU (P : Program) (t : TypeId) (x k : Value) (ok : Bool) (M : Store) : Option Value :=
 match P.underlying t with
 | some (.map kt e) => (P.underlying kt).bind fun kd => if !aV kd k then none else (bX P e).bind fun z =>
  if !(z.cells.all ao) then none else
  let es := match x with
   | .map none => some []
   | .map (some r) => match M.get r with
    | some (.inr (.inl es)) => some es
    | _ => none
   | _ => none
  es.bind fun es => if !(es.all fun e => aV kd e.1) then none else
  let r := match aH k es 0 with
   | some (_, v) => (v, true)
   | none => (z, false)
  some (if ok then .tuple #[r.1, .bool r.2] else r.1)
 | _ => none
def bw (P : Program) (t : TypeId) (x k v : Value) (M : Store) : Option Store :=
 match P.underlying t, x with
 | some (.map kt _), .map (some r) => (P.underlying kt).bind fun kd => if !aV kd k then none else
  if !(v.cells.all (·.oneCell')) then none else
  match M.get r with
  | some (.inr (.inl es)) => if !(es.all fun e => aV kd e.1) then none else
   match aH k es 0 with
   | some (i, _) => some (M.set r (some (.inr (.inl (es.set i (k, v))))))
   | none => some (M.set r (some (.inr (.inl (es ++ [(k, v)])))))
  | _ => none
 | _, _ => none
def eB (P : Program) (t : TypeId) (x k : Value) (M : Store) : Option Store :=
 match P.underlying t, x with
 | some (.map kt _), .map (some r) => (P.underlying kt).bind fun kd => if !aV kd k then none else
  match M.get r with
  | some (.inr (.inl es)) => if !(es.all fun e => aV kd e.1) then none else
   match aH k es 0 with
   | some (i, _) => some (M.set r (some (.inr (.inl (es.eraseIdx i)))))
   | none => some (M.set r (some (.inr (.inl es))))
  | _ => none
 | _, _ => none
def aD (P : Program) (b : Builtin) (ts : Array TypeId) (args : Array Value) (M : Store) : Option (Value × Store) :=
 match b, args.toList with
 | .append, [v, x] => bZ P ts v x M
 | .len, [x] => (ts[0]?).bind fun t => (eC P t x M).bind fun v => some (v, M)
 | .min, [x, y] => (dE x y).bind fun v => some (v, M)
 | .cap, [x] => (ts[0]?).bind fun t => (ny P t x).bind fun v => some (v, M)
 | .max, [x, y] => (dD x y).bind fun v => some (v, M)
 | .copy, [v, x] => m6 P ts v x M
 | .delete, [m, k] => (ts[0]?).bind fun t => (eB P t m k M).bind fun M => some (.tuple #[], M)
 | _, _ => none
def bH : Value → Bool
 | .func _ _ _ | .iface _ _ | .agg _ | .tuple _ => false
 | _ => true
def kH : Fn → Bool
 | .yield _ => false
 | _ => true
def bQ : Operand → Bool
 | .const _ => true
 | _ => false
def aop (P : Program) (ρ : Operand → Value) (o : Op) (M : Store) : Option (Sum Value (Bool × Nat × Array Value) × Store) :=
 let v (r : Option Value) : Option (Sum Value (Bool × Nat × Array Value) × Store) := r.bind fun x => some (.inl x, M)
 let vs (r : Option (Value × Store)) : Option (Sum Value (Bool × Nat × Array Value) × Store) := r.bind fun x => some (.inl x.1, x.2)
 let u (r : Option Store) : Option (Sum Value (Bool × Nat × Array Value) × Store) := r.bind fun x => some (.inl undef, x)
 match o with
 | .move x | .assign x => some (.inl (ρ x), M)
 | .pick c a b => match ρ c with
  | .bool t => some (.inl (if t then ρ a else ρ b), M)
  | _ => none
 | .alloc t => vs (fZ P t M)
 | .box t x => vs (kq t (ρ x) M)
 | .build t ps => v (jd P t (ps.map fun (i, x) => (i, ρ x)))
 | .buildSlice t n ps => vs (co P t n (ps.map fun (i, x) => (i, ρ x)) M)
 | .load t a => v (ee P t (ρ a) M)
 | .store t a x => u (jm P t (ρ a) (ρ x) M)
 | .nilCheck x => match ρ x with
  | .pointer (some a) => some (.inl (.pointer (some a)), M)
  | _ => none
 | .binOp op t x y _ => v (dv P (bQ x || bQ y) op t (ρ x) (ρ y))
 | .unOp op _ x => v (aun op (ρ x))
 | .convert s d x => vs (bq P s d (ρ x) M)
 | .makeInterface t x => match P.underlying t with
  | some (.interface _) => none
  | some _ => if bH (ρ x) then some (.inl (.iface t (ρ x)), M) else none
  | none => none
 | .makeFunc fn first captured =>
  if kH fn && ((first.map ρ).all bH && (captured.map ρ).all bH) then some (.inl (.func fn (first.map ρ) (captured.map ρ)), M) else none
 | .makeMap t r => match P.underlying t, r with
  | some (.map _ _), none => some (.inl (.map (some M.n)), M.push (some (.inr (.inl []))))
  | _, _ => none
 | .makeSlice t l c => vs (cP P t (ρ l) (ρ c) M)
 | .slice t x lo hi mx => v (dA P t (ρ x) (lo.map ρ) (hi.map ρ) (mx.map ρ) M)
 | .fieldAddr t x f => v (fy P t (ρ x) f)
 | .field t x f => v (kW P t (ρ x) f)
 | .indexAddr t x i => v (eb P t (ρ x) (ρ i))
 | .index t x i => v (jf P t (ρ x) (ρ i))
 | .lookup t x k ok => v (dU P t (ρ x) (ρ k) ok M)
 | .mapUpdate t m k x => u (bw P t (ρ m) (ρ k) (ρ x) M)
 | .insert t m k x => u (bw P t (ρ m) (ρ k) (ρ x) M)
 | .extract t i => match ρ t with
  | .tuple vs => v (vs[i]?)
  | _ => none
 | .call c =>
  match c.callee with
  | .builtin b => vs (aD P b c.argTypes (c.args.map ρ) M)
  | .value f => match ρ f with
   | .func (.func g) first captured => some (.inr (true, g, first ++ c.args.map ρ ++ captured), M)
   | .func (.yield l) first _ => some (.inr (false, l, first ++ c.args.map ρ), M)
   | _ => none
  | .invoke _ _ => none
 | _ => none
abbrev ap := Bool → Nat → Array Value → Store → Option (Value × Store)
def AAct.yielded (ops : Array Oper) (a : AAct) (j : Nat) : Option Bool :=
 match (ops[j]?).bind (·.dst) with
 | some d => match a.t.get d with
  | .bool b => some b
  | _ => none
 | none => none
def bV (P : Program) (call : ap) (ops : Array Oper) : List Oper → AAct → Store → Option (AAct × Store)
 | [], a, M => some (a, M)
 | o :: rest, a, M =>
  if Region.wanted o (AAct.yielded ops a) then
   match aop P a.eval o.op M with
   | some (.inl v, M') => bV P call ops rest (a.put o.dst v) M'
   | some (.inr (g, f, args), M') => match call g f args M' with
    | some (v, M'') => bV P call ops rest (a.put o.dst v) M''
    | none => none
   | none => none
  else bV P call ops rest (a.put o.dst undef) M
def aU (P : Program) (call : ap) (ops : Array Oper) (o : Oper) (a : AAct) (M : Store) : Option (AAct × Store) :=
 if Region.wanted o (AAct.yielded ops a) then
  match aop P a.eval o.op M with
  | some (.inl v, M') => some (a.put o.dst v, M')
  | some (.inr (g, f, args), M') => match call g f args M' with
   | some (v, M'') => some (a.put o.dst v, M'')
   | none => none
  | none => none
 else some (a.put o.dst undef, M)
def bB (P : Program) (call : ap) (ops : Array Oper) : List Oper → AAct → Store → Option (List (AAct × Store))
 | [], a, M => some [(a, M)]
 | o :: r, a, M => match aU P call ops o a M with
  | some (a', M') => (bB P call ops r a' M').bind fun L => some ((a, M) :: L)
  | none => none
def jH (bs : List Nat) (o : Oper) : Nat :=
 o.after.toList.foldl (fun m e => if Region.binds .any e then m ||| 2 ^ e.on ||| bs.getD e.on 0 else m) 0
def bW : List Oper → List Nat → List Nat
 | [], acc => acc
 | o :: r, acc => bW r (acc ++ [jH acc o])
def ju (ops : Array Oper) : Bool :=
 let bs := bW ops.toList []
 (List.range ops.size).all fun i => match ops[i]? with
  | none => false
  | some o => bs.getD i 0 == jH bs o && (o.after.toList.all (fun e => !Region.binds .any e || decide (e.on < i)) &&
   (List.range ops.size).all fun j => match ops[j]? with
    | none => false
    | some q => match q.dst with
     | none => true
     | some d => (!(o.looksAt ops).contains d || ((bs.getD i 0).testBit j || (bs.getD j 0).testBit i)) && (i == j || o.dst != some d))
def tdiff (M M' : Store) : List Nat := M'.log.take (M'.log.length - M.log.length)
def cw : Value → List Nat
 | .pointer (some a) => [a.block]
 | .slice (some a) _ _ => [a.block]
 | .map (some r) => [r]
 | _ => []
def a6 : Op → Bool
 | .convert s d _ => s != d
 | .move _ | .assign _ | .pick _ _ _ | .alloc _ | .box _ _ | .build _ _ | .buildSlice _ _ _ | .load _ _ | .nilCheck _ | .binOp _ _ _ _ _ | .unOp _ _ _ | .makeInterface _ _ | .makeFunc _ _ _
 | .makeMap _ none | .makeSlice _ _ _ | .slice _ _ _ _ _ | .fieldAddr _ _ _ | .field _ _ _ | .indexAddr _ _ _ | .index _ _ _ | .lookup _ _ _ _ | .extract _ _ => true
 | .call c => match c.callee with
  | .builtin .len | .builtin .min | .builtin .max | .builtin .cap => true
  | _ => false
 | _ => false
def nD : Op → Bool
 | .call c => match c.callee with
  | .builtin .append => true
  | _ => false
 | _ => false
def fp (o : Op) : Bool := a6 o || nD o
def aA (ρ : Operand → Value) : Op → List Nat
 | .load _ a => cw (ρ a)
 | .convert _ _ x => cw (ρ x)
 | .slice _ x _ _ _ => cw (ρ x)
 | .lookup _ x _ _ => cw (ρ x)
 | .call c => c.args.toList.flatMap fun x => cw (ρ x)
 | _ => []
def dw (bs Ns : List Nat) (i b : Nat) : Bool :=
 decide (b < Ns.getD 0 0) || (List.range i).any fun j => (bs.getD i 0).testBit j && (decide (Ns.getD j 0 ≤ b) && decide (b < Ns.getD (j + 1) 0))
def rdB (ops : Array Oper) (L : List (AAct × Store)) (bs Ns : List Nat) (k b : Nat) : Bool :=
 match ops[k]?, L[k]? with
 | some o, some s => dw bs Ns k b && (!fp o.op || (aA s.1.eval o.op).contains b)
 | _, _ => true
def kx (ops : Array Oper) (L : List (AAct × Store)) : Bool :=
 ((List.range ops.size).all fun i => match L[i]?, L[i + 1]? with
  | some s, some s' => (tdiff s.2 s'.2).all fun b => decide (s.2.n ≤ b)
  | _, _ => false) ||
 (let bs := bW ops.toList []
  let Ns := L.map (·.2.n)
  (List.range ops.size).all fun i => match L[i]?, L[i + 1]? with
   | some s, some s' => (tdiff s.2 s'.2).all fun b => decide (s.2.n ≤ b) || ((s.2.get b).isSome && (dw bs Ns i b &&
       (List.range ops.size).all fun k => k == i || (!rdB ops L bs Ns k b || ((bs.getD i 0).testBit k || (bs.getD k 0).testBit i))))
   | _, _ => false)
def cY (P : Program) (call : ap) (ops : Array Oper) (a : AAct) (M : Store) : Option (AAct × Store) :=
 (bB P call ops ops.toList a M).bind fun L => if kx ops L then L[ops.size]? else none
def cO (step : AAct → Store → Option (cK × AAct × Store)) : Nat → AAct → Store → Option (cK × AAct × Store)
 | 0, _, _ => none
 | n + 1, a, M => match step a M with
  | some (0, a', M') => cO step n a' M'
  | r => r
def eM (M : Store) (l : Nat) : Option ic :=
 match M.get l with
 | some (.inr (.inr (some r))) => some r
 | _ => none
def f8 (M : Store) (l : Nat) (r : ic) : Store := M.set l (some (.inr (.inr (some r))))
def fa (rd : Option Nat) (ps : Array Tmp) (x y : Code) (a : AAct) (M : Store) : Option (AAct × Store) :=
 match rd with
 | none => some ({ a with defers := { target := .collected M.n, args := #[] } :: a.defers },
     (M.push (some (.inr (.inr none)))).push (some (.inr (.inr (some ⟨.ready, 0, a.t, ps, x, y⟩)))))
 | some l => (eM M l).bind fun _ => some (a, M.push (some (.inr (.inr (some ⟨.ready, 0, a.t, ps, x, y⟩)))))
def ah (P : Program) (call : ap) (k : Nat) (rd : Option Nat) : Code → AAct → Store → Option (cK × AAct × Store)
 | .skip, a, M => some (0, a, M)
 | .region _ ops draw, a, M => (if draw then cY P call ops a M else bV P call ops ops.toList a M).bind fun r => some (0, r.1, r.2)
 | .seq x y, a, M => match ah P call k rd x a M with
  | some (0, a', M') => ah P call k rd y a' M'
  | r => r
 | .cond c x y, a, M => match a.eval c with
  | .bool t => if t then ah P call k rd x a M else ah P call k rd y a M
  | _ => none
 | .block id c, a, M => match ah P call k rd c a M with
  | some (e, a', M') => some (if e = id + 2 then 0 else e, a', M')
  | none => none
 | .loop c, a, M => cO (ah P call k rd c) k a M
 | .exit id, a, M => some (id + 2, a, M)
 | .ret, a, M => some (1, a, M)
 | .rangeFunc g ps x y, a, M => match a.eval g with
  | .func (.func f) first captured => (fa rd ps x y a M).bind fun s =>
   (call true f (first ++ #[.func (.yield (s.2.n - 1)) #[] #[]] ++ captured) s.2).bind fun q =>
   (eM q.2 (s.2.n - 1)).bind fun r => if r.st == .busy then none else some (r.pe, s.1, f8 q.2 (s.2.n - 1) { r with st := .exhausted })
  | _ => none
 | _, _, _ => none
def gP (P : Program) (rs : List ResultVar) (a : AAct) (M : Store) : Option (List Value) :=
 match rs with
 | [] => some []
 | .tmp t :: r => (gP P r a M).bind fun q => some (a.get t :: q)
 | .cell t ty :: r => (ee P ty (a.get t) M).bind fun v => (gP P r a M).bind fun q => some (v :: q)
def f7 : Value → Bool
 | .tuple _ => false
 | _ => true
def jn : List Value → Value
 | [v] => v
 | vs => .tuple vs.toArray
def fA : List Deferred → Store → Option Store
 | [], M => some M
 | d :: ds, M => match d.target with
  | .collected r => match M.get r with
   | some (.inr (.inr none)) => fA ds (M.set r none)
   | _ => none
  | _ => none
def aq (P : Program) (ext : FuncId → Option (Array Value → Store → Option (Value × Store))) : Nat → ap
 | 0, _, _, _, _ => none
 | k + 1, true, f, args, M =>
  match ext f with
  | some g => g args M
  | none =>
   match P.funcs[f]? with
   | some fn => match fn.body with
    | some body =>
     if fn.name == "runtime.NumGoroutine" then none else
     match ah P (aq P ext k) k none body (AAct.enter fn.ntmps args.toList) M with
     | some (e, a, M') => if e ≤ 1 then (fA a.defers M').bind fun M' => (gP P fn.results.toList a M').bind fun vs => if vs.all f7 then some (jn vs, M') else none else none
     | none => none
    | none => none
   | none => none
 | k + 1, false, l, args, M =>
  (eM M l).bind fun r => if args.size = r.params.size then
   match ah P (aq P ext k) k (some l) r.assign ⟨(r.params.toList.zip args.toList).foldl (fun t pv => t.put pv.1 pv.2) r.tmps, []⟩ M with
   | some (0, a1, M1) => (eM M1 l).bind fun r1 => if r1.st == .ready then
       (ah P (aq P ext k) k (some l) r.body a1 (f8 M1 l { r1 with st := .busy })).bind fun q =>
       (eM q.2.2 l).bind fun r3 => some (.bool (q.1 == 0), f8 q.2.2 l { r3 with st := if q.1 == 0 then .ready else .done, pe := q.1 })
       else none
   | _ => none
   else none
def g9 : Operand → Bool
 | .tmp _ => true
 | .const (.agg cs) => cs.all ao
 | .const v => ao v
 | .func _ => true
 | .global _ => true
def hY (o : Oper) : Bool := o.op.operands.all g9
def aQ : Code → Bool
 | .region _ ops draw => ops.all hY && (!draw || ju ops)
 | .seq a b => aQ a && aQ b
 | .cond c a b => g9 c && aQ a && aQ b
 | .block _ c => aQ c
 | .loop c => aQ c
 | .rangeFunc g _ a b => g9 g && aQ a && aQ b
 | _ => true
end Go.Ab

set_option linter.unusedVariables false
set_option linter.unusedSimpArgs false
namespace Go.Ab
open Go.RowKit
theorem Store.get_push_eq (M : Store) (o : aJ) : (M.push o).get M.n = o := by simp [Store.push, Store.get]
theorem Store.get_push_ne (M : Store) (o : aJ) {i : Nat} (h : i ≠ M.n) : (M.push o).get i = M.get i := by
 by_cases h1 : i < M.n
 ·have h2 : i < M.n + 1 := by omega
  have : M.n - i = (M.n - 1 - i) + 1 := by omega
  simp [Store.push, Store.get, h1, h2, this]
 ·have h2 : ¬ i < M.n + 1 := by omega
  simp [Store.push, Store.get, h1, h2]
theorem Store.get_ge (M : Store) {i : Nat} (h : M.n ≤ i) : M.get i = none := by simp [Store.get, Nat.not_lt.2 h]
theorem Store.lt_of_get (M : Store) {i : Nat} {x} (h : M.get i = some x) : i < M.n := by
 rcases Nat.lt_or_ge i M.n with h1 | h1
 ·exact h1
 ·rw [M.get_ge h1] at h; cases h
theorem Store.get_set_eq (M : Store) {i : Nat} {x} (o : aJ) (h : M.get i = some x) : (M.set i o).get i = o := by
 have h1 := M.lt_of_get h
 simp only [Store.get, if_pos h1] at h
 simp only [Store.set, if_pos h1, Store.get]
 have : M.n - 1 - i < M.l.length := by
  rcases Nat.lt_or_ge (M.n - 1 - i) M.l.length with h2 | h2
  ·exact h2
  ·rw [List.getElem?_eq_none h2] at h; cases h
 simp [List.getElem?_set_self this]
theorem Store.get_set_ne (M : Store) {i j : Nat} (o : aJ) (h : i ≠ j) : (M.set i o).get j = M.get j := by
 unfold Store.set
 split
 ·rename_i h1
  simp only [Store.get]
  split
  ·rename_i h2
   rw [List.getElem?_set_ne (by omega)]
  ·rfl
 ·rfl
@[simp] theorem Store.push_n (M : Store) (o : aJ) : (M.push o).n = M.n + 1 := rfl
@[simp] theorem Store.push_log (M : Store) (o : aJ) : (M.push o).log = M.log := rfl
@[simp] theorem Store.set_n (M : Store) (i : Nat) (o : aJ) : (M.set i o).n = M.n := by unfold Store.set; split <;> rfl
theorem Store.set_log (M : Store) {i : Nat} {x} (o : aJ) (h : M.get i = some x) : (M.set i o).log = i :: M.log := by
 simp [Store.set, M.lt_of_get h]
structure Loc where
 b : Nat
 o : Nat
 own : Bool
abbrev Map := Nat → Option Loc
abbrev Shp := Nat → Option (TypeId × Nat)
def MLe (μ μ' : Map) : Prop := ∀ i l, μ i = some l → μ' i = some l
def SLe (s s' : Shp) : Prop := ∀ b x, s b = some x → s' b = some x
theorem MLe.refl (μ : Map) : MLe μ μ := fun _ _ h => h
theorem MLe.trans {a b c : Map} (h : MLe a b) (k : MLe b c) : MLe a c := fun i l e => k i l (h i l e)
theorem SLe.refl (s : Shp) : SLe s s := fun _ _ h => h
theorem SLe.trans {a b c : Shp} (h : SLe a b) (k : SLe b c) : SLe a c := fun i l e => k i l (h i l e)
def LRel (R : Value → Value → Prop) (us vs : List Value) : Prop :=
 us.length = vs.length ∧ ∀ (i : Nat) (u v : Value), us[i]? = some u → vs[i]? = some v → R u v
theorem LRel.mono {R S : Value → Value → Prop} {us vs : List Value} (h : LRel R us vs) (k : ∀ u v, R u v → S u v) : LRel S us vs :=
 ⟨h.1, fun i u v a b => k _ _ (h.2 i u v a b)⟩
theorem LRel.nil (R : Value → Value → Prop) : LRel R [] [] := ⟨rfl, fun i u v h => by simp at h⟩
theorem LRel.cons {R : Value → Value → Prop} {u v : Value} {us vs : List Value} (h : R u v) (k : LRel R us vs) : LRel R (u :: us) (v :: vs) :=
 ⟨by simp [k.1], fun i x y hx hy => by
  cases i with
  | zero => simp at hx hy; subst hx; subst hy; exact h
  | succ i => simp at hx hy; exact k.2 i x y hx hy⟩
theorem LRel.head {R : Value → Value → Prop} {u v : Value} {us vs : List Value} (h : LRel R (u :: us) (v :: vs)) : R u v := h.2 0 u v rfl rfl
theorem LRel.tail {R : Value → Value → Prop} {u v : Value} {us vs : List Value} (h : LRel R (u :: us) (v :: vs)) : LRel R us vs :=
 ⟨by have := h.1; simpa using this, fun i x y hx hy => h.2 (i + 1) x y (by simpa using hx) (by simpa using hy)⟩
theorem LRel.get {R : Value → Value → Prop} {us vs : List Value} (h : LRel R us vs) {i : Nat} {v : Value} (hv : vs[i]? = some v) : ∃ u, us[i]? = some u ∧ R u v := by
 have hi : i < us.length := by
  rw [h.1]; exact (List.getElem?_eq_some_iff.1 hv).1
 exact ⟨us[i], List.getElem?_eq_getElem hi, h.2 i _ v (List.getElem?_eq_getElem hi) hv⟩
theorem LRel.get' {R : Value → Value → Prop} {us vs : List Value} (h : LRel R us vs) {i : Nat} {u : Value} (hu : us[i]? = some u) : ∃ v, vs[i]? = some v ∧ R u v := by
 have hi : i < vs.length := by
  rw [← h.1]; exact (List.getElem?_eq_some_iff.1 hu).1
 exact ⟨vs[i], List.getElem?_eq_getElem hi, h.2 i u _ hu (List.getElem?_eq_getElem hi)⟩
theorem LRel.drop {R : Value → Value → Prop} {us vs : List Value} (h : LRel R us vs) (n : Nat) : LRel R (us.drop n) (vs.drop n) :=
 ⟨by simp [h.1], fun i u v hu hv => by simp at hu hv; exact h.2 _ u v hu hv⟩
theorem LRel.take {R : Value → Value → Prop} {us vs : List Value} (h : LRel R us vs) (n : Nat) : LRel R (us.take n) (vs.take n) :=
 ⟨by simp [h.1], fun i u v hu hv => by
  rw [List.getElem?_take] at hu hv
  split at hu
  ·rename_i hi; rw [if_pos hi] at hv; exact h.2 _ u v hu hv
  ·cases hu⟩
theorem LRel.append {R : Value → Value → Prop} {us vs us' vs' : List Value} (h : LRel R us vs) (k : LRel R us' vs') : LRel R (us ++ us') (vs ++ vs') :=
 ⟨by simp [h.1, k.1], fun i u v hu hv => by
  rw [List.getElem?_append] at hu hv
  have := h.1
  split at hu
  ·rw [if_pos (by omega)] at hv; exact h.2 i u v hu hv
  ·rw [if_neg (by omega)] at hv; rw [← h.1] at hv; exact k.2 _ u v hu hv⟩
theorem LRel.same {R : Value → Value → Prop} {vs : List Value} (h : ∀ v ∈ vs, R v v) : LRel R vs vs :=
 ⟨rfl, fun i u v hu hv => by rw [hu] at hv; injection hv with hv; subst hv; exact h u (List.mem_of_getElem? hu)⟩
theorem LRel.set {R : Value → Value → Prop} {us vs : List Value} (h : LRel R us vs) {u v : Value} (k : R u v) (n : Nat) : LRel R (us.set n u) (vs.set n v) :=
 ⟨by simp [h.1], fun i x y hx hy => by
  rw [List.getElem?_set] at hx hy
  split at hx
  ·rename_i e
   rw [if_pos e] at hy
   split at hx
   ·rename_i e2
    rw [if_pos (by rw [← h.1]; exact e2)] at hy
    injection hx with hx; injection hy with hy; subst hx; subst hy; exact k
   ·cases hx
  ·rename_i e; rw [if_neg e] at hy; exact h.2 i x y hx hy⟩
def AddrRel (μ : Map) (a a' : Addr) : Prop := a'.spot = none ∧ ∃ l, μ a'.block = some l ∧ a = ⟨l.b, l.o + a'.off, none⟩
structure SlRel (P : Program) (μ : Map) (sh : Shp) (ac : Option Addr) (nc cc : Nat) (aa : Option Addr) (na ca : Nat) : Prop where
 len : nc = na
 le : na ≤ cc
 max : cc ≤ maxLen
 full : ca = na → cc = na
 some_ : ac.isSome = aa.isSome
 nil : aa = none → na = 0 ∧ cc = 0
 addr : 0 < na ∨ ca = na + 1 → ∀ x, aa = some x → ∃ y, ac = some y ∧ AddrRel μ y x ∧
  ∀ l, μ x.block = some l → l.own = true → ∃ e N s, sh l.b = some (e, N) ∧ aB P e = some s ∧ l.o + x.off + cc * s ≤ N
def po (μ : Map) : Option Addr → Option Addr → Prop
 | none, none => True
 | some a, some b => AddrRel μ a b ∨ b.spot ≠ none
 | _, _ => False
def sg (μ : Map) : Option Nat → Option Nat → Prop
 | none, none => True
 | some a, some b => ∃ l, μ b = some l ∧ l.b = a
 | _, _ => False
def BRel (P : Program) (μ : Map) (sh : Shp) : Value → Value → Prop
 | .bool a, .bool b => a = b
 | .int k a, .int j b => k = j ∧ a = b
 | .string a, .string b => a = b
 | .pointer a, .pointer b => po μ a b
 | .slice a n c, .slice a' n' c' => SlRel P μ sh a n c a' n' c'
 | .map a, .map b => sg μ a b
 | .nilFunc, .nilFunc => True
 | .nilIface, .nilIface => True
 | _, _ => False
def FnRel (μ : Map) : Fn → Fn → Prop
 | .yield l, .yield l' => ∃ k, μ l' = some k ∧ k.b = l
 | .yield _, _ => False
 | f, g => f = g
def CRel (P : Program) (μ : Map) (sh : Shp) : Value → Value → Prop
 | .func f a c, .func g a' c' => FnRel μ f g ∧ LRel (BRel P μ sh) a.toList a'.toList ∧ LRel (BRel P μ sh) c.toList c'.toList
 | .iface t v, .iface u v' => t = u ∧ BRel P μ sh v v'
 | u, v => BRel P μ sh u v
def DRel (P : Program) (μ : Map) (sh : Shp) : Value → Value → Prop
 | .agg a, .agg b => LRel (CRel P μ sh) a.toList b.toList
 | u, v => CRel P μ sh u v
def VRel (P : Program) (μ : Map) (sh : Shp) : Value → Value → Prop
 | .tuple a, .tuple b => LRel (DRel P μ sh) a.toList b.toList
 | u, v => DRel P μ sh u v
theorem SlRel.mono {P : Program} {μ μ' : Map} {sh sh' : Shp} (hm : MLe μ μ') (hs : SLe sh sh') {a n c a' n' c'} (h : SlRel P μ sh a n c a' n' c') : SlRel P μ' sh' a n c a' n' c' :=
 ⟨h.len, h.le, h.max, h.full, h.some_, h.nil, fun k x e => by
     obtain ⟨y, hy, ⟨h1, l, h2, h3⟩, h4⟩ := h.addr k x e
     refine ⟨y, hy, ⟨h1, l, hm _ _ h2, h3⟩, fun l' hl' ho => ?_⟩
     have : l = l' := by have := hm _ _ h2; rw [hl'] at this; injection this with this; exact this.symm
     subst this
     obtain ⟨e, N, s, h5, h6⟩ := h4 l h2 ho
     exact ⟨e, N, s, hs _ _ h5, h6⟩⟩
theorem BRel.mono {P : Program} {μ μ' : Map} {sh sh' : Shp} (hm : MLe μ μ') (hs : SLe sh sh') {u v : Value} (h : BRel P μ sh u v) : BRel P μ' sh' u v := by
 cases u <;> cases v <;> try exact h
 case pointer.pointer a b =>
  cases a <;> cases b <;> try exact h
  rcases h with ⟨h1, l, h2, h3⟩ | h
  ·exact .inl ⟨h1, l, hm _ _ h2, h3⟩
  ·exact .inr h
 case slice.slice => exact SlRel.mono hm hs h
 case map.map a b =>
  cases a <;> cases b <;> try exact h
  obtain ⟨l, h2, h3⟩ := h
  exact ⟨l, hm _ _ h2, h3⟩
theorem CRel.inv {P : Program} {μ : Map} {sh : Shp} {u v : Value} (h : CRel P μ sh u v) : BRel P μ sh u v ∨
    (∃ f a c g a' c', u = .func f a c ∧ v = .func g a' c' ∧ FnRel μ f g ∧ LRel (BRel P μ sh) a.toList a'.toList ∧ LRel (BRel P μ sh) c.toList c'.toList) ∨
    (∃ t x y, u = .iface t x ∧ v = .iface t y ∧ BRel P μ sh x y) := by
 cases u <;> cases v
 case func.func => obtain ⟨h0, h1, h2⟩ := h; exact .inr (.inl ⟨_, _, _, _, _, _, rfl, rfl, h0, h1, h2⟩)
 case iface.iface => obtain ⟨rfl, h1⟩ := h; exact .inr (.inr ⟨_, _, _, rfl, rfl, h1⟩)
 all_goals exact .inl h
theorem DRel.inv {P : Program} {μ : Map} {sh : Shp} {u v : Value} (h : DRel P μ sh u v) : CRel P μ sh u v ∨
    (∃ a b, u = .agg a ∧ v = .agg b ∧ LRel (CRel P μ sh) a.toList b.toList) := by
 cases u <;> cases v
 case agg.agg => exact .inr ⟨_, _, rfl, rfl, h⟩
 all_goals exact .inl h
theorem VRel.inv {P : Program} {μ : Map} {sh : Shp} {u v : Value} (h : VRel P μ sh u v) : DRel P μ sh u v ∨
    (∃ a b, u = .tuple a ∧ v = .tuple b ∧ LRel (DRel P μ sh) a.toList b.toList) := by
 cases u <;> cases v
 case tuple.tuple => exact .inr ⟨_, _, rfl, rfl, h⟩
 all_goals exact .inl h
theorem CRel.of_B {P : Program} {μ : Map} {sh : Shp} {u v : Value} (h : BRel P μ sh u v) : CRel P μ sh u v := by
 cases u <;> cases v <;> first | exact h | exact h.elim
theorem DRel.of_C {P : Program} {μ : Map} {sh : Shp} {u v : Value} (h : CRel P μ sh u v) : DRel P μ sh u v := by
 cases u <;> cases v <;> first | exact h | exact h.elim
theorem VRel.of_D {P : Program} {μ : Map} {sh : Shp} {u v : Value} (h : DRel P μ sh u v) : VRel P μ sh u v := by
 cases u <;> cases v <;> first | exact h | exact h.elim
theorem FnRel.mono {μ μ' : Map} (hm : MLe μ μ') {f g : Fn} (h : FnRel μ f g) : FnRel μ' f g := by
 cases f <;> cases g <;> first
  | exact h
  | exact h.elim
  | (obtain ⟨k, h1, h2⟩ := h; exact ⟨k, hm _ _ h1, h2⟩)
theorem CRel.mono {P : Program} {μ μ' : Map} {sh sh' : Shp} (hm : MLe μ μ') (hs : SLe sh sh') {u v : Value} (h : CRel P μ sh u v) : CRel P μ' sh' u v := by
 rcases h.inv with h | ⟨_, _, _, _, _, _, rfl, rfl, h0, h1, h2⟩ | ⟨_, _, _, rfl, rfl, h1⟩
 ·exact .of_B (h.mono hm hs)
 ·exact ⟨h0.mono hm, h1.mono fun _ _ => BRel.mono hm hs, h2.mono fun _ _ => BRel.mono hm hs⟩
 ·exact ⟨rfl, h1.mono hm hs⟩
theorem DRel.mono {P : Program} {μ μ' : Map} {sh sh' : Shp} (hm : MLe μ μ') (hs : SLe sh sh') {u v : Value} (h : DRel P μ sh u v) : DRel P μ' sh' u v := by
 rcases h.inv with h | ⟨_, _, rfl, rfl, h1⟩
 ·exact .of_C (h.mono hm hs)
 ·exact LRel.mono h1 fun _ _ => CRel.mono hm hs
theorem VRel.mono {P : Program} {μ μ' : Map} {sh sh' : Shp} (hm : MLe μ μ') (hs : SLe sh sh') {u v : Value} (h : VRel P μ sh u v) : VRel P μ' sh' u v := by
 rcases h.inv with h | ⟨_, _, rfl, rfl, h1⟩
 ·exact .of_D (h.mono hm hs)
 ·exact LRel.mono h1 fun _ _ => DRel.mono hm hs
theorem VRel.of_B {P : Program} {μ : Map} {sh : Shp} {u v : Value} (h : BRel P μ sh u v) : VRel P μ sh u v := .of_D (.of_C (.of_B h))
theorem CRel.one {P : Program} {μ : Map} {sh : Shp} {u v : Value} (h : CRel P μ sh u v) : u.oneCell' = true ∧ v.oneCell' = true := by
 cases u <;> cases v <;> first | exact h.elim | exact ⟨rfl, rfl⟩
theorem VRel.C {P : Program} {μ : Map} {sh : Shp} {u v : Value} (h : VRel P μ sh u v) (h1 : v.oneCell' = true) : CRel P μ sh u v := by
 cases u <;> cases v <;> first | exact h | exact h.elim | (simp [Value.oneCell'] at h1)
theorem DRel.cells {P : Program} {μ : Map} {sh : Shp} {u v : Value} (h : DRel P μ sh u v) : LRel (CRel P μ sh) u.cells.toList v.cells.toList := by
 cases u <;> cases v <;> first
  | exact h
  | exact h.elim
  | exact LRel.cons h (LRel.nil _)
theorem VRel.cells {P : Program} {μ : Map} {sh : Shp} {u v : Value} (h : VRel P μ sh u v) (h1 : v.cells.all (·.oneCell') = true) : LRel (CRel P μ sh) u.cells.toList v.cells.toList := by
 cases u <;> cases v <;> first
  | exact h.elim
  | exact DRel.cells h
  | (simp [Value.cells, Value.oneCell'] at h1)
theorem VRel.cells_size {P : Program} {μ : Map} {sh : Shp} {u v : Value} (h : VRel P μ sh u v) : u.cells.size = v.cells.size := by
 rcases h.inv with h | ⟨_, _, rfl, rfl, h1⟩
 ·have := h.cells.1
  simpa using this
 ·rfl
theorem jM {P : Program} {μ : Map} {sh : Shp} {v : Value} (h : ao v = true) : BRel P μ sh v v := by
 cases v <;> try (simp [ao] at h; done)
 case bool => rfl
 case int => exact ⟨rfl, rfl⟩
 case string => rfl
 case pointer a => cases a <;> first | trivial | (simp [ao] at h)
 case slice a n c =>
  cases a with
  | none =>
   simp [ao] at h
   obtain ⟨rfl, rfl⟩ := h
   exact ⟨rfl, Nat.le_refl _, by simp [maxLen], fun _ => rfl, rfl, fun _ => ⟨rfl, rfl⟩, fun _ x hx => by cases hx⟩
  | some a => simp [ao] at h
 case map a => cases a <;> first | trivial | (simp [ao] at h)
 case nilFunc => trivial
 case nilIface => trivial
theorem rT {P : Program} {μ : Map} {sh : Shp} {u v : Value} (h : VRel P μ sh u v) (hk : ∃ d, aV d v = true) : u = v := by
 obtain ⟨d, hk⟩ := hk
 cases v <;> first | (cases d <;> simp [aV] at hk; done) | skip
 all_goals
  cases u <;> first
   | exact h.elim
   | (obtain ⟨rfl, rfl⟩ := h; rfl)
   | (obtain rfl : _ = _ := h; rfl)
theorem gS {P : Program} {μ : Map} {sh : Shp} {z : Value} (h : z.cells.all ao = true) : LRel (CRel P μ sh) z.cells.toList z.cells.toList :=
 LRel.same fun v hv => .of_B (jM (by simp at h; obtain ⟨i, hi, rfl⟩ := List.getElem_of_mem hv; exact h i (by simpa using hi)))
def iZ (P : Program) (μ : Map) (sh : Shp) (en : List MapEntry) (es : List (Value × Value)) : Prop :=
 en.length = es.length ∧ ∀ (i : Nat) (x : MapEntry) (kv : Value × Value), en[i]? = some x → es[i]? = some kv → VRel P μ sh x.key kv.1 ∧ VRel P μ sh x.val kv.2 ∧ kv.2.cells.all (·.oneCell') = true
def hU : cK → Option Code
 | 0 => none
 | 1 => some .ret
 | n + 2 => some (.exit n)
def GOk (μ : Map) (sh : Shp) : Prop := ∀ g i, gix a7 0 g = some i → μ i = some ⟨g, 0, false⟩ ∧ ∃ e, sh g = some (e, gsz.getD i 0)
theorem GOk.mono {μ μ' : Map} {sh sh' : Shp} (hm : MLe μ μ') (hs : SLe sh sh') (h : GOk μ sh) : GOk μ' sh' := fun g i e => ⟨hm _ _ (h g i e).1, (h g i e).2.imp fun _ k => hs _ _ k⟩
theorem ll {P : Program} {μ : Map} {sh : Shp} (h : GOk μ sh) (g : Nat) : VRel P μ sh (.pointer (some ⟨g, 0, none⟩)) (.pointer (some (m8 g))) := by
 refine VRel.of_B (show po μ (some ⟨g, 0, none⟩) (some (m8 g)) from ?_)
 unfold m8
 cases e : gix a7 0 g with
 | some i => exact .inl ⟨rfl, _, (h g i e).1, rfl⟩
 | none => exact .inr (by simp)
structure RecRel (P : Program) (μ : Map) (sh : Shp) (q : Loop) (r : ic) : Prop where
 st : q.state = r.st
 pe : q.pending = hU r.pe
 params : q.params = r.params
 assign : q.assign = r.assign
 body : q.body = r.body
 size : ∀ i, r.tmps.has i = true ↔ i < q.tmps.size
 tmps : ∀ i : Nat, VRel P μ sh (q.tmps.getD i undef) (r.tmps.get i)
 ok : aQ r.assign = true ∧ aQ r.body = true
theorem RecRel.mono {P : Program} {μ μ' : Map} {sh sh' : Shp} (hm : MLe μ μ') (hs : SLe sh sh') {q : Loop} {r : ic} (h : RecRel P μ sh q r) : RecRel P μ' sh' q r :=
 ⟨h.st, h.pe, h.params, h.assign, h.body, h.size, fun i => (h.tmps i).mono hm hs, h.ok⟩
def FrOk (n : Nat) (fr : Nat × Nat) : Prop := fr.1 = fr.2 ∨ n ≤ fr.1
theorem FrOk.cells {n : Nat} {fr : Nat × Nat} (h : FrOk n fr) : ∀ i, i < n → ¬ (fr.1 ≤ i ∧ i < fr.2) := fun i hi h' => by
 rcases h with h | h <;> omega
def ObjRel (P : Program) (μ : Map) (w : World) (l : Loc) : aJ → Prop
 | none => True
 | some (.inl (c, e, own)) => own = l.own ∧ ∃ cc ce fr, w.heap[l.b]? = some (.cells cc ce fr) ∧ LRel (CRel P μ w.shape?) ((cc.toList.drop l.o).take c.length) c ∧
     (own = true → ce = e ∧ l.o = 0 ∧ FrOk cc.size fr)
 | some (.inr (.inl es)) => l.own = true ∧ ∃ en clock, w.heap[l.b]? = some (.map en clock) ∧ iZ P μ w.shape? en.toList es ∧ MapKept.Stamped en clock
 | some (.inr (.inr none)) => l.own = true ∧ w.heap[l.b]? = some (.deferred (some []))
 | some (.inr (.inr (some r))) => l.own = true ∧ ∃ q : Loop, w.heap[l.b]? = some (.loop q) ∧ RecRel P μ w.shape? q r
structure Rel (P : Program) (μ : Map) (M : Store) (w : World) : Prop where
 dom : ∀ i l, μ i = some l → i < M.n ∧ l.b < w.heap.size
 obj : ∀ i l, μ i = some l → ObjRel P μ w l (M.get i)
 excl : ∀ i j l k, μ i = some l → μ j = some k → i ≠ j → M.get i ≠ none → M.get j ≠ none → l.own = true → l.b ≠ k.b
structure Step (μ : Map) (M : Store) (w : World) (μ' : Map) (M' : Store) (w' : World) : Prop where
 le : MLe μ μ'
 n : M.n ≤ M'.n
 size : w.heap.size ≤ w'.heap.size
 os : w'.os = w.os
 tape : w'.tape = w.tape
 output : w'.output = w.output
 shp : SLe w.shape? w'.shape?
 log : ∃ t, M'.log = t ++ M.log ∧
  (∀ b, b < w.heap.size → (∀ i ∈ t, ∀ l, μ i = some l → l.own = true → l.b ≠ b) → w'.heap[b]? = w.heap[b]?) ∧
  (∀ i l, μ' i = some l → μ i = some l ∨ (M.n ≤ i ∧ True ∧ (w.heap.size ≤ l.b ∨ ∃ j ∈ t, ∃ k, μ j = some k ∧ k.own = true ∧ k.b = l.b)))
theorem Step.refl (μ : Map) (M : Store) (w : World) : Step μ M w μ M w :=
 ⟨.refl _, Nat.le_refl _, Nat.le_refl _, rfl, rfl, rfl, .refl _, [], rfl, fun _ _ _ => rfl, fun _ _ h => .inl h⟩
theorem Step.trans {μ μ1 μ2 : Map} {M M1 M2 : Store} {w w1 w2 : World} (hd : ∀ i l, μ i = some l → i < M.n ∧ l.b < w.heap.size)
    (h : Step μ M w μ1 M1 w1) (k : Step μ1 M1 w1 μ2 M2 w2) : Step μ M w μ2 M2 w2 := by
 obtain ⟨t, ht, hf, hn⟩ := h.log
 obtain ⟨t', ht', hf', hn'⟩ := k.log
 refine ⟨h.le.trans k.le, Nat.le_trans h.n k.n, Nat.le_trans h.size k.size, k.os.trans h.os, k.tape.trans h.tape, k.output.trans h.output, h.shp.trans k.shp,
  t' ++ t, by rw [ht', ht, List.append_assoc], fun b hb hq => ?_, fun i l hi => ?_⟩
 ·have h1 : w1.heap[b]? = w.heap[b]? := hf b hb fun i hi l hl ho => hq i (List.mem_append_right _ hi) l hl ho
  rw [← h1]
  refine hf' b (Nat.lt_of_lt_of_le hb h.size) fun i hi l hl ho hlb => ?_
  rcases hn i l hl with h2 | ⟨h2, h3, h4⟩
  ·exact hq i (List.mem_append_left _ hi) l h2 ho hlb
  ·rcases h4 with h4 | ⟨j, hj, q, hq1, hq2, hq3⟩
   ·omega
   ·exact hq j (List.mem_append_right _ hj) q hq1 hq2 (hq3.trans hlb)
 ·rcases hn' i l hi with h2 | ⟨h2, h3, h4⟩
  ·rcases hn i l h2 with h5 | ⟨h5, h6, h7⟩
   ·exact .inl h5
   ·refine .inr ⟨h5, h6, h7.imp id ?_⟩
    rintro ⟨j, hj, q, hq⟩
    exact ⟨j, List.mem_append_right _ hj, q, hq⟩
  ·refine .inr ⟨Nat.le_trans h.n h2, h3, ?_⟩
   rcases h4 with h4 | ⟨j, hj, q, hq1, hq2, hq3⟩
   ·exact .inl (Nat.le_trans h.size h4)
   ·rcases hn j q hq1 with h5 | ⟨h5, h6, h7⟩
    ·exact .inr ⟨j, List.mem_append_left _ hj, q, h5, hq2, hq3⟩
    ·rcases h7 with h7 | ⟨j', hj', q', hq'1, hq'2, hq'3⟩
     ·exact .inl (hq3 ▸ h7)
     ·exact .inr ⟨j', List.mem_append_right _ hj', q', hq'1, hq'2, hq'3.trans hq3⟩
end Go.Ab

set_option linter.unusedVariables false
set_option linter.unusedSimpArgs false
namespace Go.Ab
open Go.RowKit
section
variable {P : Program} {μ : Map} {sh : Shp} {u : Value}
theorem VRel.int {k : IntKind} {n : Int} (h : VRel P μ sh u (.int k n)) : u = .int k n := by
 cases u <;> first | exact h.elim | (obtain ⟨rfl, rfl⟩ := h; rfl)
theorem VRel.bool {b : Bool} (h : VRel P μ sh u (.bool b)) : u = .bool b := by
 cases u <;> first | exact h.elim | (obtain rfl : _ = _ := h; rfl)
theorem VRel.string {b : ByteArray} (h : VRel P μ sh u (.string b)) : u = .string b := by
 cases u <;> first | exact h.elim | (obtain rfl : _ = _ := h; rfl)
theorem VRel.pointer {b : Option Addr} (h : VRel P μ sh u (.pointer b)) : ∃ a, u = .pointer a ∧ po μ a b := by
 cases u <;> first | exact h.elim | exact ⟨_, rfl, h⟩
theorem VRel.slice {b : Option Addr} {n c : Nat} (h : VRel P μ sh u (.slice b n c)) : ∃ a c', u = .slice a n c' ∧ SlRel P μ sh a n c' b n c := by
 cases u
 case slice a n' c' =>
  have h' : SlRel P μ sh a n' c' b n c := h
  obtain rfl := h'.len
  exact ⟨_, _, rfl, h'⟩
 all_goals exact h.elim
theorem VRel.map {b : Option Nat} (h : VRel P μ sh u (.map b)) : ∃ a, u = .map a ∧ sg μ a b := by
 cases u <;> first | exact h.elim | exact ⟨_, rfl, h⟩
theorem VRel.func {f : Fn} {a c : Array Value} (h : VRel P μ sh u (.func f a c)) : ∃ g a' c', u = .func g a' c' ∧ FnRel μ g f ∧ LRel (BRel P μ sh) a'.toList a.toList ∧ LRel (BRel P μ sh) c'.toList c.toList := by
 cases u
 case func => obtain ⟨h0, h1, h2⟩ := h; exact ⟨_, _, _, rfl, h0, h1, h2⟩
 all_goals exact h.elim
theorem VRel.nilFunc (h : VRel P μ sh u .nilFunc) : u = .nilFunc := by
 cases u <;> first | exact h.elim | rfl
theorem VRel.nilIface (h : VRel P μ sh u .nilIface) : u = .nilIface := by
 cases u <;> first | exact h.elim | rfl
theorem VRel.iface {t : TypeId} {v : Value} (h : VRel P μ sh u (.iface t v)) : ∃ x, u = .iface t x ∧ BRel P μ sh x v := by
 cases u
 case iface => obtain ⟨rfl, h1⟩ := h; exact ⟨_, rfl, h1⟩
 all_goals exact h.elim
theorem VRel.agg {b : Array Value} (h : VRel P μ sh u (.agg b)) : ∃ a, u = .agg a ∧ LRel (CRel P μ sh) a.toList b.toList := by
 cases u <;> first | exact h.elim | exact ⟨_, rfl, h⟩
theorem VRel.tuple {b : Array Value} (h : VRel P μ sh u (.tuple b)) : ∃ a, u = .tuple a ∧ LRel (DRel P μ sh) a.toList b.toList := by
 cases u <;> first | exact h.elim | exact ⟨_, rfl, h⟩
theorem VRel.mkInt (k : IntKind) (n : Int) : VRel P μ sh (.int k n) (.int k n) := ⟨rfl, rfl⟩
theorem VRel.mkBool (b : Bool) : VRel P μ sh (.bool b) (.bool b) := rfl
theorem VRel.mkString (b : ByteArray) : VRel P μ sh (.string b) (.string b) := rfl
theorem VRel.undef : VRel P μ sh undef undef := LRel.nil _
end
theorem ad {P : Program} {t : TypeId} {d : TypeDesc} (h : P.underlying t = some d) (w : World) : (underlying t).run P w = .ok d w := by
 simp [underlying, h]
theorem au {P : Program} {t : TypeId} {s : Nat} (h : aB P t = some s) (w : World) : (sizeOf t).run P w = .ok s w := by
 unfold aB at h
 obtain ⟨i, hi, rfl⟩ := Option.map_eq_some_iff.1 h
 simp [sizeOf, typeInfo, hi]
theorem aE {P : Program} {t : TypeId} {z : Value} (h : bX P t = some z) (w : World) : (zeroValue t).run P w = .ok z w := by
 unfold bX at h
 obtain ⟨i, hi, hz⟩ := Option.bind_eq_some_iff.1 h
 simp [zeroValue, typeInfo, hi, hz]
theorem ei {P : Program} {t : TypeId} {d : TypeDesc} (h : P.underlying t = some d) (w : World) : (isAgg t).run P w = .ok (gO d) w := by
 cases d <;> simp [isAgg, ad h, gO]
theorem cG {P : Program} {t : TypeId} {d : TypeDesc} (h : P.underlying t = some d) (ha : gO d = false) {cs : Array Value} {o : Nat} {v : Value} (hv : cs[o]? = some v) (w : World) :
    (part t cs o).run P w = .ok v w := by
 simp [part, ei h, ha, hv]
theorem fb (a b : ByteArray) : (a == b) = decide (a = b) := by
 rw [beq_toListBytes, ByteArray.toList_eq, ByteArray.toList_eq]
 obtain ⟨⟨x⟩⟩ := a
 obtain ⟨⟨y⟩⟩ := b
 by_cases h : x = y <;> simp [h]
theorem jx {P : Program} {μ : Map} {sh : Shp} {xs ys cx cy : Array Value} (hx : LRel (CRel P μ sh) cx.toList xs.toList) (hy : LRel (CRel P μ sh) cy.toList ys.toList) (d : Nat) (w : World) :
    ∀ (fs : List Field) (b : Bool), de P xs ys fs = some b → (Op.eqFields (d + 1) cx cy fs).run P w = .ok b w
 | [], b, h => by simp [de] at h; subst h; simp [Op.eqFields]
 | f :: r, b, h => by
  have ih := jx hx hy d w r
  have gx : ∀ v, xs[f.offset]? = some v → ∃ u, cx[f.offset]? = some u ∧ CRel P μ sh u v := fun v hv => by
   obtain ⟨u, h1, h2⟩ := hx.get (i := f.offset) (v := v) (by simpa using hv)
   exact ⟨u, by simpa using h1, h2⟩
  have gy : ∀ v, ys[f.offset]? = some v → ∃ u, cy[f.offset]? = some u ∧ CRel P μ sh u v := fun v hv => by
   obtain ⟨u, h1, h2⟩ := hy.get (i := f.offset) (v := v) (by simpa using hv)
   exact ⟨u, by simpa using h1, h2⟩
  simp only [de] at h
  split at h
  ·cases h
  ·rename_i hn
   split at h
   ·rename_i k0 k a j b0 hu h1 h2
    obtain ⟨u1, e1, r1⟩ := gx _ h1
    obtain ⟨u2, e2, r2⟩ := gy _ h2
    obtain rfl := VRel.int (.of_D (.of_C r1))
    obtain rfl := VRel.int (.of_D (.of_C r2))
    split at h
    ·rename_i hkj
     subst hkj
     simp only [Op.eqFields, if_pos hn, Sem.run_bind, cG hu rfl e1, cG hu rfl e2, Result.andThen_ok, Op.equalIn, ad hu, if_true, Sem.run_pure]
     split at h
     ·rename_i hab
      subst hab
      simpa using ih b h
     ·rename_i hab
      injection h with h
      subst h
      simp [hab]
    ·cases h
   ·rename_i a b0 hu h1 h2
    obtain ⟨u1, e1, r1⟩ := gx _ h1
    obtain ⟨u2, e2, r2⟩ := gy _ h2
    obtain rfl := VRel.string (.of_D (.of_C r1))
    obtain rfl := VRel.string (.of_D (.of_C r2))
    simp only [Op.eqFields, if_pos hn, Sem.run_bind, cG hu rfl e1, cG hu rfl e2, Result.andThen_ok, Op.equalIn, ad hu, Sem.run_pure, fb]
    split at h
    ·rename_i hab
     subst hab
     simpa using ih b h
    ·rename_i hab
     injection h with h
     subst h
     simp [hab]
   ·rename_i a b0 hu h1 h2
    obtain ⟨u1, e1, r1⟩ := gx _ h1
    obtain ⟨u2, e2, r2⟩ := gy _ h2
    obtain rfl := VRel.bool (.of_D (.of_C r1))
    obtain rfl := VRel.bool (.of_D (.of_C r2))
    simp only [Op.eqFields, if_pos hn, Sem.run_bind, cG hu rfl e1, cG hu rfl e2, Result.andThen_ok, Op.equalIn, ad hu, Sem.run_pure]
    split at h
    ·rename_i hab
     subst hab
     simpa using ih b h
    ·rename_i hab
     injection h with h
     subst h
     simp [hab]
   ·cases h
set_option maxHeartbeats 2000000 in
theorem rp {P : Program} {μ : Map} {sh : Shp} {cst : Bool} {t : TypeId} {x y cx cy : Value} {b : Bool} (h : aeq P cst t x y = some b) (hx : VRel P μ sh cx x) (hy : VRel P μ sh cy y) (w : World) (d : Nat) :
    (Op.equalIn (d + 2) t cx cy).run P w = .ok b w := by
 unfold aeq at h
 split at h
 ·rename_i hu
  obtain rfl := hx.bool; obtain rfl := hy.bool
  injection h with h; subst h
  simp only [Op.equalIn, Sem.run_bind, ad hu, Result.andThen_ok, Sem.run_pure] <;> rfl
 ·rename_i hu
  obtain ⟨a, rfl, ha⟩ := hx.pointer; obtain ⟨c, rfl, hc⟩ := hy.pointer
  injection h with h; subst h
  cases a <;> first | exact ha.elim | skip
  rename_i y1
  cases y1 <;> cases c <;> first | exact hc.elim | skip
  all_goals simp only [Op.equalIn, Sem.run_bind, ad hu, Result.andThen_ok, Sem.run_pure] <;> rfl
 ·rename_i hu
  obtain ⟨a, rfl, ha⟩ := hx.pointer; obtain ⟨c, rfl, hc⟩ := hy.pointer
  injection h with h; subst h
  cases a <;> cases c <;> first | exact hc.elim | exact ha.elim | skip
  all_goals simp only [Op.equalIn, Sem.run_bind, ad hu, Result.andThen_ok, Sem.run_pure] <;> rfl
 ·rename_i hu
  obtain ⟨a, c1, rfl, ha⟩ := hx.slice; obtain ⟨c, c2, rfl, hc⟩ := hy.slice
  injection h with h; subst h
  have h1 := ha.some_; have h2 := hc.some_
  cases a <;> simp at h1
  simp only [Op.equalIn, Sem.run_bind, ad hu, Result.andThen_ok, Sem.run_pure]
  rw [← Option.not_isSome, ← Option.not_isSome, h2]
 ·rename_i hu
  obtain ⟨a, c1, rfl, ha⟩ := hx.slice; obtain ⟨c, c2, rfl, hc⟩ := hy.slice
  injection h with h; subst h
  have h1 := ha.some_; have h2 := hc.some_
  cases a <;> simp at h1
  cases c <;> simp at h2
  simp only [Op.equalIn, Sem.run_bind, ad hu, Result.andThen_ok, Sem.run_pure] <;> rfl
 ·rename_i hu
  obtain ⟨a, rfl, ha⟩ := hx.map; obtain ⟨c, rfl, hc⟩ := hy.map
  injection h with h; subst h
  cases a <;> first | exact ha.elim | skip
  rename_i y1
  cases y1 <;> cases c <;> first | exact hc.elim | skip
  all_goals simp only [Op.equalIn, Sem.run_bind, ad hu, Result.andThen_ok, Sem.run_pure] <;> rfl
 ·rename_i hu
  obtain ⟨a, rfl, ha⟩ := hx.map; obtain ⟨c, rfl, hc⟩ := hy.map
  injection h with h; subst h
  cases a <;> cases c <;> first | exact hc.elim | exact ha.elim | skip
  all_goals simp only [Op.equalIn, Sem.run_bind, ad hu, Result.andThen_ok, Sem.run_pure] <;> rfl
 ·rename_i hu
  obtain rfl := hx.nilFunc; obtain rfl := hy.nilFunc
  injection h with h; subst h
  simp only [Op.equalIn, Sem.run_bind, ad hu, Result.andThen_ok, Sem.run_pure] <;> rfl
 ·rename_i hu
  obtain rfl := hx.nilFunc; obtain ⟨_, _, _, rfl, _⟩ := hy.func
  injection h with h; subst h
  simp only [Op.equalIn, Sem.run_bind, ad hu, Result.andThen_ok, Sem.run_pure] <;> rfl
 ·rename_i hu
  obtain rfl := hy.nilFunc; obtain ⟨_, _, _, rfl, _⟩ := hx.func
  injection h with h; subst h
  simp only [Op.equalIn, Sem.run_bind, ad hu, Result.andThen_ok, Sem.run_pure] <;> rfl
 ·rename_i hu
  obtain rfl := hx.nilIface; obtain rfl := hy.nilIface
  split at h
  ·injection h with h; subst h
   simp only [Op.equalIn, Sem.run_bind, ad hu, Result.andThen_ok, Sem.run_pure] <;> rfl
  ·cases h
 ·rename_i hu
  obtain rfl := hx.nilIface; obtain ⟨_, rfl, _⟩ := hy.iface
  injection h with h; subst h
  simp only [Op.equalIn, Sem.run_bind, ad hu, Result.andThen_ok, Sem.run_pure] <;> rfl
 ·rename_i hu
  obtain rfl := hy.nilIface; obtain ⟨_, rfl, _⟩ := hx.iface
  injection h with h; subst h
  simp only [Op.equalIn, Sem.run_bind, ad hu, Result.andThen_ok, Sem.run_pure] <;> rfl
 ·rename_i fs xs ys hu
  obtain ⟨a, rfl, ha⟩ := hx.agg; obtain ⟨c, rfl, hc⟩ := hy.agg
  split at h
  ·cases h
  ·rename_i hg
   simp only [Bool.or_eq_true, not_or, Bool.not_eq_true] at hg
   have hf : P.fieldsOf t = fs := by simp [Program.fieldsOf, hu]
   rw [run_equalIn_struct w (d + 1) t a c (by rw [hf]; exact hu) hg.1, hf]
   exact jx ha hc d w _ b h
 ·cases h
theorem sX {P : Program} {μ : Map} {sh : Shp} {cst : Bool} {t : TypeId} {x y cx cy : Value} {b : Bool} (h : aeq P cst t x y = some b) (hx : VRel P μ sh cx x) (hy : VRel P μ sh cy y) (w : World) :
    (Op.equal t cx cy).run P w = .ok b w := rp h hx hy w 9998
theorem oO {P : Program} {μ : Map} {sh : Shp} {op : BinOp} {t : TypeId} {ox oy : Operand} {x y cx cy : Value} {r : Value} (h : dv P (bQ ox || bQ oy) op t x y = some r) (hx : VRel P μ sh cx x) (hy : VRel P μ sh cy y) (w : World) :
    (eqGuard op t ox oy cx cy).run P w = .ok () w := by
 cases op <;> try (simp [eqGuard]; done)
 all_goals
  unfold eqGuard
  cases cx <;> try (simp; done)
  case nilIface =>
   cases cy <;> try (simp; done)
   cases x <;> first | exact hx.elim | skip
   cases y <;> first | exact hy.elim | skip
   have hc : (bQ ox || bQ oy) = true := by
    cases hq : (bQ ox || bQ oy) with
    | true => rfl
    | false =>
     rw [hq] at h
     simp only [dv, aeq] at h
     revert h
     split <;> simp_all
   simp only [Bool.or_eq_true] at hc
   cases ox <;> cases oy <;> simp [bQ] at hc <;> simp
  case agg a =>
   cases cy <;> try (simp; done)
   cases x <;> first | exact hx.elim | skip
   cases y <;> first | exact hy.elim | skip
   have hg : P.eqGuardType P.depth t = false := by
    cases hq : P.eqGuardType P.depth t with
    | false => rfl
    | true =>
     simp only [dv, aeq] at h
     revert h
     split <;> simp_all
   simp [hg]
theorem rk {P : Program} {μ : Map} {sh : Shp} {op : BinOp} {t : TypeId} {cst : Bool} {x y cx cy : Value} {r : Value} (h : dv P cst op t x y = some r) (hx : VRel P μ sh cx x) (hy : VRel P μ sh cy y) (w : World) :
    (binOp op t cx cy).run P w = .ok r w ∧ VRel P μ sh r r := by
 unfold dv at h
 split at h
 ·obtain rfl := hx.int; obtain rfl := hy.int
  cases op <;> (try simp only [] at h) <;> (repeat (split at h)) <;> (first | (cases h; done) | skip) <;> (repeat (split at h)) <;> first | (cases h; done) | skip
  all_goals (injection h with h; subst h; refine ⟨?_, ?_⟩ <;> first | exact VRel.mkInt _ _ | exact VRel.mkBool _ | skip)
  all_goals simp_all [binOp, Op.shift, Op.intArith, Op.intDiv, Op.intBits, Op.intCmp]
  all_goals omega
 ·obtain rfl := hx.string; obtain rfl := hy.string
  cases op <;> (try simp only [] at h) <;> (repeat (split at h)) <;> first | (cases h; done) | skip
  all_goals (injection h with h; subst h; refine ⟨?_, ?_⟩ <;> first | exact VRel.mkString _ | exact VRel.mkBool _ | skip)
  all_goals simp only [binOp, Op.stringOp, Sem.run_pure, ByteArray.toList_eq]
  rename_i hle
  rw [if_neg (by simp [IntKind.max, IntKind.bits, IntKind.signed]; omega)]
  rfl
 ·rename_i n1 n2
  have hb : ∀ b, aeq P cst t x y = some b → (Op.equal t cx cy).run P w = .ok b w := fun b h => sX h hx hy w
  have h1 : ∀ k a j b, cx = .int k a → cy ≠ .int j b := by
   rintro k a j b rfl rfl
   cases x <;> first | exact hx.elim | skip
   cases y <;> first | exact hy.elim | skip
   exact n1 _ _ _ _ rfl rfl
  have h2 : ∀ a b, cx = .string a → cy ≠ .string b := by
   rintro a b rfl rfl
   cases x <;> first | exact hx.elim | skip
   cases y <;> first | exact hy.elim | skip
   exact n2 _ _ rfl rfl
  have hfl : ∀ k a, cx ≠ .float k a := by rintro k a rfl; cases x <;> exact hx.elim
  have hco : ∀ k a b, cx ≠ .complex k a b := by rintro k a b rfl; cases x <;> exact hx.elim
  split at h
  ·obtain ⟨b, hb', h⟩ := Option.bind_eq_some_iff.1 h
   injection h with h; subst h
   refine ⟨?_, VRel.mkBool _⟩
   have e : binOp .eql t cx cy = (do pure (.bool (← Op.equal t cx cy))) := by
    cases cx <;> cases cy <;> first | rfl | (exact absurd rfl (h1 _ _ _ _ rfl)) | (exact absurd rfl (h2 _ _ rfl)) | (exact absurd rfl (hfl _ _)) | (exact absurd rfl (hco _ _ _))
   rw [e]
   simp [hb _ hb']
  ·obtain ⟨b, hb', h⟩ := Option.bind_eq_some_iff.1 h
   injection h with h; subst h
   refine ⟨?_, VRel.mkBool _⟩
   have e : binOp .neq t cx cy = (do pure (.bool (!(← Op.equal t cx cy)))) := by
    cases cx <;> cases cy <;> first | rfl | (exact absurd rfl (h1 _ _ _ _ rfl)) | (exact absurd rfl (h2 _ _ rfl)) | (exact absurd rfl (hfl _ _)) | (exact absurd rfl (hco _ _ _))
   rw [e]
   simp [hb _ hb']
  ·cases h
end Go.Ab

set_option linter.unusedVariables false
set_option linter.unusedSimpArgs false
namespace Go.Ab
open Go.RowKit
theorem dQ (b o n : Nat) : (⟨b, o, none⟩ : Addr).add n = ⟨b, o + n, none⟩ := by unfold Addr.add; split <;> simp_all
theorem AddrRel.add {μ : Map} {a a' : Addr} (h : AddrRel μ a a') (n : Nat) : AddrRel μ (a.add n) (a'.add n) := by
 obtain ⟨h1, l, h2, rfl⟩ := h
 obtain ⟨b, o, s⟩ := a'
 subst h1
 rw [dQ, dQ]
 exact ⟨rfl, l, h2, by simp [Nat.add_assoc]⟩
theorem AddrRel.add' {μ : Map} {a a' : Addr} (h : AddrRel μ a a') (n : Nat) : AddrRel μ (a.add n) ⟨a'.block, a'.off + n, none⟩ := by
 have := h.add n
 obtain ⟨b, o, s⟩ := a'
 obtain ⟨h1, _⟩ := h
 subst h1
 rwa [dQ] at this
def pl (R : Value → Value → Prop) : Option Value → Option Value → Prop
 | none, none => True
 | some u, some v => R u v
 | _, _ => False
theorem br {P : Program} {μ : Map} {sh : Shp} {cv v : Value} {y y' d n : Nat} (hv : VRel P μ sh cv v) (h : ax (some v) y d = some n) (hy : y ≤ y') (code : BoundsCode) (w : World) :
    (Instr.sliceBound cv y' code).run P w = .ok n w ∧ n ≤ y := by
 unfold ax at h
 cases v <;> simp only [] at h <;> first | (cases h; done) | skip
 rename_i k i
 obtain rfl := hv.int
 split at h
 ·rename_i hi
  injection h with h
  subst h
  refine ⟨?_, by omega⟩
  simp only [Instr.sliceBound, asIntOf, Sem.run_bind, Sem.run_pure, Result.andThen_ok]
  rw [if_pos ⟨hi.1, by omega⟩]
  rfl
 ·cases h
set_option maxHeartbeats 1000000 in
theorem pI {P : Program} {μ : Map} {M : Store} {w : World} {t : TypeId} {x cx : Value} {lo hi mx clo chi cmx : Option Value} {r : Value} (hR : Rel P μ M w) (h : dA P t x lo hi mx M = some r)
    (hx : VRel P μ w.shape? cx x) (hlo : pl (VRel P μ w.shape?) clo lo) (hhi : pl (VRel P μ w.shape?) chi hi) (hmx : pl (VRel P μ w.shape?) cmx mx) :
    ∃ cr, (Instr.slice t cx clo chi cmx).run P w = .ok cr w ∧ VRel P μ w.shape? cr r := by
 unfold dA at h
 split at h
 ·rename_i s hu
  obtain rfl := hx.string
  split at h
  ·cases h
  ·rename_i hm
   cases mx <;> simp at hm
   cases cmx <;> first | exact hmx.elim | skip
   obtain ⟨hh, hh1, h⟩ := Option.bind_eq_some_iff.1 h
   obtain ⟨l, hl1, h⟩ := Option.bind_eq_some_iff.1 h
   injection h with h
   subst h
   refine ⟨_, ?_, VRel.mkString _⟩
   have e1 : (match chi with
       | some v => Instr.sliceBound v s.size .sliceAlen
       | none => pure s.size : Sem Nat).run P w = .ok hh w := by
    cases chi <;> cases hi <;> first | exact hhi.elim | skip
    ·simp [ax] at hh1; subst hh1; rfl
    ·exact (br hhi hh1 (Nat.le_refl _) _ w).1
   have e2 : (match clo with
       | some v => Instr.sliceBound v hh .sliceB
       | none => pure 0 : Sem Nat).run P w = .ok l w := by
    cases clo <;> cases lo <;> first | exact hlo.elim | skip
    ·simp [ax] at hl1; subst hl1; rfl
    ·exact (br hlo hl1 (Nat.le_refl _) _ w).1
   cases chi <;> cases clo <;> simp_all [Instr.slice, ad hu, Instr.sliceBounds]
 ·rename_i e a len ca hu
  obtain ⟨ac, cc, rfl, hs⟩ := hx.slice
  obtain ⟨size, hsz, h⟩ := Option.bind_eq_some_iff.1 h
  have hsize := au hsz w
  -- what a cut has
  have key : ∀ (l hh m cap' : Nat), l ≤ hh → hh ≤ len → hh ≤ m → m ≤ cc → (cap' = hh - l → m = hh) → (cap' = hh - l + 1 → l < hh ∨ (l = 0 ∧ (0 < len ∨ ca = len + 1) ∧ bJ M a e = true)) → (l = hh ∨ bJ M a e = true) →
      VRel P μ w.shape? (.slice (if m = l then ac else ac.map (·.add (l * size))) (hh - l) (m - l)) (.slice (a.map (·.add (l * size))) (hh - l) cap') := by
   intro l hh m cap' h1 h2 h3 h4 h5 h6 h7
   refine ⟨rfl, by omega, by have := hs.max; omega, fun q => by have := h5 q; omega, ?_, ?_, ?_⟩
   ·have := hs.some_
    split <;> cases ac <;> cases a <;> simp_all
   ·intro q
    cases a with
    | none => have := hs.nil rfl; omega
    | some a => simp at q
   ·intro q x hx
    have hlt : l < hh ∨ (l = 0 ∧ (0 < len ∨ ca = len + 1) ∧ bJ M a e = true) := q.elim (fun q => .inl (by omega)) h6
    have h7 : bJ M a e = true := hlt.elim (fun q => h7.resolve_left (by omega)) fun q => q.2.2
    have hkn : 0 < len ∨ ca = len + 1 := hlt.elim (fun q => .inl (by omega)) fun q => q.2.1
    have hml : m = l → l = 0 := fun q => hlt.elim (fun q' => by omega) fun q => q.1
    cases a with
    | none => simp at hx
    | some a =>
     simp only [Option.map_some, Option.some.injEq] at hx
     subst hx
     obtain ⟨y, rfl, ha, ho⟩ := hs.addr hkn a rfl
     have hif : (if m = l then some y else (some y).map (·.add (l * size))) = some (y.add (l * size)) := by
      split
      ·rename_i q
       have := hml q
       subst this
       obtain ⟨_, _, _, rfl⟩ := ha
       rw [Nat.zero_mul, dQ]; rfl
      ·rfl
     rw [hif]
     refine ⟨_, rfl, ha.add _, fun q hq hown => ?_⟩
     have hb : (a.add (l * size)).block = a.block := by unfold Addr.add; split <;> rfl
     rw [hb] at hq
     obtain ⟨e', N, s, g1, g2, g3⟩ := ho q hq hown
     have hel := h7
     have hob := hR.obj _ _ hq
     unfold bJ at hel
     simp only [] at hel
     split at hel
     ·rename_i c0 e0 own0 hg
      rw [hg] at hob
      obtain ⟨o1, cc0, ce0, fr0, o2, _, o3⟩ := hob
      subst o1
      rw [hown] at hel o3
      simp only [Bool.not_true, Bool.false_or, beq_iff_eq] at hel
      obtain ⟨rfl, o4, _⟩ := o3 rfl
      subst hel
      have g1' : w.shape? q.b = some (ce0, cc0.size) := by simp [World.shape?, o2]
      rw [g1'] at g1
      obtain ⟨rfl, rfl⟩ : ce0 = e' ∧ cc0.size = N := by simpa using g1
      rw [hsz] at g2
      injection g2 with g2
      subst g2
      refine ⟨_, _, size, g1', hsz, ?_⟩
      have hoff : (a.add (l * size)).off = a.off + l * size := by
       unfold Addr.add; split <;> simp_all
      rw [hoff]
      have : (m - l) * size + l * size = m * size := by rw [← Nat.add_mul]; congr 1; omega
      have : m * size ≤ cc * size := Nat.mul_le_mul_right _ h4
      omega
     ·cases hel
  split at h
  ·cases cmx <;> first | exact hmx.elim | skip
   obtain ⟨hh, hh1, h⟩ := Option.bind_eq_some_iff.1 h
   obtain ⟨l, hl1, h⟩ := Option.bind_eq_some_iff.1 h
   split at h
   case isFalse => cases h
   rename_i hel
   injection h with h
   subst h
   have hle := hs.le
   have e1 : (match chi with
       | some v => Instr.sliceBound v cc .sliceAcap
       | none => pure len : Sem Nat).run P w = .ok hh w ∧ hh ≤ len := by
    cases chi <;> cases hi <;> first | exact hhi.elim | skip
    ·simp [ax] at hh1; subst hh1; exact ⟨rfl, Nat.le_refl _⟩
    ·exact br hhi hh1 hle _ w
   have e2 : (match clo with
       | some v => Instr.sliceBound v hh .sliceB
       | none => pure 0 : Sem Nat).run P w = .ok l w ∧ l ≤ hh := by
    cases clo <;> cases lo <;> first | exact hlo.elim | skip
    ·simp [ax] at hl1; subst hl1; exact ⟨rfl, Nat.zero_le _⟩
    ·exact br hlo hl1 (Nat.le_refl _) _ w
   refine ⟨_, ?_, key l hh cc _ e2.2 e1.2 (by omega) (Nat.le_refl _) ?_ ?_ (by simpa using hel)⟩
   ·have e1 := e1.1; have e2 := e2.1
    cases chi <;> cases clo <;> simp_all [Instr.slice, ad hu, Instr.sliceBounds]
   ·split
    ·rename_i q; intro _; have := hs.full q.1; omega
    ·split <;> omega
   ·intro q
    split at q
    ·by_cases hz : l < hh
     ·exact .inl hz
     ·omega
    ·split at q
     ·omega
     ·rename_i hz
      by_cases hlt : l < hh
      ·exact .inl hlt
      ·exact .inr (Classical.not_not.1 fun hc => hz ⟨by omega, hc⟩)
  ·rename_i vm
   cases cmx <;> first | exact hmx.elim | skip
   rename_i cvm
   obtain ⟨m, hm1, h⟩ := Option.bind_eq_some_iff.1 h
   split at h
   ·cases h
   ·rename_i hn
    obtain ⟨hh, hh1, h⟩ := Option.bind_eq_some_iff.1 h
    obtain ⟨l, hl1, h⟩ := Option.bind_eq_some_iff.1 h
    split at h
    case isFalse => cases h
    rename_i hel
    injection h with h
    subst h
    have hle := hs.le
    have e0 : (Instr.sliceBound cvm cc .slice3Acap).run P w = .ok m w ∧ m ≤ len := br hmx hm1 hle _ w
    cases hi <;> simp at hn
    cases chi <;> first | exact hhi.elim | skip
    have e1 := br hhi hh1 (Nat.le_refl _) .slice3B w
    have e2 : (match clo with
        | some v => Instr.sliceBound v hh .slice3C
        | none => pure 0 : Sem Nat).run P w = .ok l w ∧ l ≤ hh := by
     cases clo <;> cases lo <;> first | exact hlo.elim | skip
     ·simp [ax] at hl1; subst hl1; exact ⟨rfl, Nat.zero_le _⟩
     ·exact br hlo hl1 (Nat.le_refl _) _ w
    refine ⟨_, ?_, key l hh m _ e2.2 (by omega) e1.2 (by omega) ?_ ?_ (by simpa using hel)⟩
    ·have e0 := e0.1; have e1 := e1.1; have e2 := e2.1
     cases clo <;> simp_all [Instr.slice, ad hu, Instr.sliceBounds]
    ·split <;> omega
    ·split <;> omega
 ·cases h
end Go.Ab

set_option linter.unusedVariables false
set_option linter.unusedSimpArgs false
namespace Go.Ab
open Go.RowKit
section
variable {P : Program} {μ : Map} {sh : Shp}
theorem mP {d : TypeDesc} {us vs : List Value} {r : Value} (h : fG d vs = some r) (hl : LRel (CRel P μ sh) us vs) :
    ∃ cr, fG d us = some cr ∧ VRel P μ sh cr r := by
 unfold fG at h ⊢
 split at h
 ·rename_i ha
  injection h with h; subst h
  rw [if_pos ha]
  exact ⟨_, rfl, by show LRel _ _ _; simpa using hl⟩
 ·rename_i ha
  rw [if_neg ha]
  split at h
  ·injection h with h; subst h
   obtain ⟨hn, hl⟩ := hl
   match us, hn with
   | [u], _ => exact ⟨u, rfl, .of_D (.of_C (hl 0 u _ rfl rfl))⟩
  ·cases h
theorem lN {t : TypeId} {x cx r : Value} {f : Nat} (h : fy P t x f = some r) (hx : VRel P μ sh cx x) (w : World) :
    ∃ cr, (Instr.fieldAt t cx f).run P w = .ok cr w ∧ VRel P μ sh cr r := by
 unfold fy at h
 split at h
 ·rename_i fs b o hu
  obtain ⟨a, rfl, ha⟩ := hx.pointer
  cases a <;> first | exact ha.elim | skip
  rename_i a
  have ha := ha.resolve_right (by simp)
  obtain ⟨fd, hf, h⟩ := Option.bind_eq_some_iff.1 h
  obtain ⟨s, hs, h⟩ := Option.bind_eq_some_iff.1 h
  split at h
  ·cases h
  ·rename_i hne
   injection h with h; subst h
   refine ⟨.pointer (some (a.add fd.offset)), ?_, .inl (AddrRel.add' ha _)⟩
   simp [Instr.fieldAt, ad hu, hf, Instr.sureAddr, fieldPlace, au hs, hne]
 ·cases h
theorem mA {t : TypeId} {cs ccs : Array Value} {o : Nat} {r : Value} (h : cB P t cs o = some r) (hc : LRel (CRel P μ sh) ccs.toList cs.toList) (w : World) :
    ∃ cr, (part t ccs o).run P w = .ok cr w ∧ VRel P μ sh cr r := by
 unfold cB at h
 obtain ⟨d, hd, h⟩ := Option.bind_eq_some_iff.1 h
 obtain ⟨s, hs, h⟩ := Option.bind_eq_some_iff.1 h
 split at h
 ·rename_i hle
  have hsz : ccs.size = cs.size := by simpa using hc.1
  have hl : LRel (CRel P μ sh) (ccs.extract o (o + s)).toList (cs.extract o (o + s)).toList := by
   simp only [Array.toList_extract, List.extract_eq_take_drop]
   exact (hc.drop _).take _
  obtain ⟨cr, h1, h2⟩ := mP h hl
  refine ⟨cr, ?_, h2⟩
  unfold fG at h1
  split at h1
  ·rename_i ha
   injection h1 with h1; subst h1
   simp only [Array.toArray_toList]
   simp [part, ei hd, ha, au hs]
  ·rename_i ha
   split at h1
   ·rename_i v hv
    injection h1 with h1; subst h1
    have : ccs[o]? = some v := by
     have h0 : (ccs.extract o (o + s)).toList[0]? = some v := by rw [hv]; rfl
     simp only [Array.toList_extract, List.extract_eq_take_drop, List.getElem?_take, List.getElem?_drop] at h0
     split at h0
     ·simpa using h0
     ·cases h0
    simp [part, ei hd, ha, this]
   ·cases h1
 ·cases h
theorem pD {t : TypeId} {x cx r : Value} {f : Nat} (h : kW P t x f = some r) (hx : VRel P μ sh cx x) (w : World) :
    ∃ cr, (Instr.field t cx f).run P w = .ok cr w ∧ VRel P μ sh cr r := by
 unfold kW at h
 split at h
 ·rename_i fs cs hu
  obtain ⟨a, rfl, ha⟩ := hx.agg
  obtain ⟨fd, hf, h⟩ := Option.bind_eq_some_iff.1 h
  obtain ⟨cr, h1, h2⟩ := mA h ha w
  exact ⟨cr, by simp [Instr.field, ad hu, hf, asAgg, h1], h2⟩
 ·cases h
theorem lO {t : TypeId} {x i cx ci r : Value} (h : eb P t x i = some r) (hx : VRel P μ sh cx x) (hi : VRel P μ sh ci i) (w : World) :
    ∃ cr, (Instr.indexAt t cx ci).run P w = .ok cr w ∧ VRel P μ sh cr r := by
 unfold eb at h
 split at h
 ·rename_i e a len cap k i hu
  obtain ⟨ac, cc, rfl, hs⟩ := hx.slice
  obtain rfl := hi.int
  obtain ⟨s, hsz, h⟩ := Option.bind_eq_some_iff.1 h
  split at h
  ·rename_i hb
   injection h with h; subst h
   obtain ⟨y, rfl, ha, _⟩ := hs.addr (.inl (by omega)) a rfl
   refine ⟨.pointer (some (y.add (i.toNat * s))), ?_, .inl (AddrRel.add' ha _)⟩
   simp [Instr.indexAt, asIntOf, ad hu, au hsz, hb.1, hb.2.1]
  ·cases h
 ·rename_i len e a k i hu
  obtain ⟨y, rfl, ha⟩ := hx.pointer
  cases y <;> first | exact ha.elim | skip
  rename_i y
  obtain rfl := hi.int
  obtain ⟨s, hsz, h⟩ := Option.bind_eq_some_iff.1 h
  split at h
  ·rename_i hb
   injection h with h; subst h
   have ha := ha.resolve_right (by simp [hb.2.2])
   refine ⟨.pointer (some (y.add (i.toNat * s))), ?_, .inl (AddrRel.add' ha _)⟩
   simp [Instr.indexAt, asIntOf, ad hu, au hsz, hb.1, hb.2.1, Instr.sureAddr]
  ·cases h
 ·cases h
theorem pF {t : TypeId} {x i cx ci r : Value} (h : jf P t x i = some r) (hx : VRel P μ sh cx x) (hi : VRel P μ sh ci i) (w : World) :
    ∃ cr, (Instr.index t cx ci).run P w = .ok cr w ∧ VRel P μ sh cr r := by
 unfold jf at h
 split at h
 ·rename_i len e cs k i hu
  obtain ⟨a, rfl, ha⟩ := hx.agg
  obtain rfl := hi.int
  obtain ⟨s, hsz, h⟩ := Option.bind_eq_some_iff.1 h
  split at h
  ·rename_i hb
   obtain ⟨cr, h1, h2⟩ := mA h ha w
   exact ⟨cr, by simp [Instr.index, asIntOf, ad hu, au hsz, hb.1, hb.2, h1], h2⟩
  ·cases h
 ·rename_i s k i hu
  obtain rfl := hx.string
  obtain rfl := hi.int
  split at h
  ·rename_i hb
   obtain ⟨b, hb', h⟩ := Option.bind_eq_some_iff.1 h
   injection h with h; subst h
   exact ⟨_, by simp [Instr.index, asIntOf, ad hu, hb, hb'], VRel.mkInt _ _⟩
  ·cases h
 ·cases h
theorem sY {op : UnOp} {x cx r : Value} (h : aun op x = some r) (hx : VRel P μ sh cx x) (w : World) :
    (Op.unary op cx).run P w = .ok r w ∧ VRel P μ sh r r := by
 unfold aun at h
 split at h
 ·obtain rfl := hx.int
  injection h with h; subst h
  exact ⟨by simp [Op.unary, Op.intArith], VRel.mkInt _ _⟩
 ·obtain rfl := hx.bool
  injection h with h; subst h
  exact ⟨by simp [Op.unary], VRel.mkBool _⟩
 ·cases h
theorem iT {R : Value → Value → Prop} (off : Nat) : ∀ (us vs : List Value) (k : Nat) (c c' : Array Value), LRel R us vs → LRel R c.toList c'.toList →
    LRel R ((us.zipIdx k).foldl (fun cs (x : Value × Nat) => cs.setIfInBounds (off + x.2) x.1) c).toList ((vs.zipIdx k).foldl (fun cs (x : Value × Nat) => cs.setIfInBounds (off + x.2) x.1) c').toList
 | [], [], _, _, _, _, h => by simpa using h
 | u :: us, v :: vs, k, c, c', h, hc => by
  simp only [List.zipIdx_cons, List.foldl_cons]
  refine iT off us vs (k + 1) _ _ h.tail ?_
  simp only [Array.toList_setIfInBounds]
  exact hc.set h.head _
 | [], _ :: _, _, _, _, h, _ => by simp [LRel] at h
 | _ :: _, [], _, _, _, h, _ => by simp [LRel] at h
theorem iC {ρc ρa : Operand → Value} {place : Nat → Option (Nat × Nat)} : ∀ (ps : List (Nat × Operand)) (c c' r : Array Value), (∀ p ∈ ps, VRel P μ sh (ρc p.2) (ρa p.2)) → (∀ p ∈ ps, (ρa p.2).cells.all (·.oneCell') = true) →
    LRel (CRel P μ sh) c.toList c'.toList → Instr.fill place c' (ps.map fun p => (p.1, ρa p.2)) = some r →
    ∃ cr, Instr.fill place c (ps.map fun p => (p.1, ρc p.2)) = some cr ∧ LRel (CRel P μ sh) cr.toList r.toList
 | [], c, c', r, _, _, hc, h => by simp [Instr.fill] at h; subst h; exact ⟨c, by simp [Instr.fill], hc⟩
 | p :: ps, c, c', r, hv, h1, hc, h => by
  simp only [List.map_cons, Instr.fill] at h ⊢
  cases hp : place p.1 with
  | none => simp [hp] at h
  | some os =>
   obtain ⟨off, size⟩ := os
   simp only [hp] at h ⊢
   have hrel := hv p (by simp)
   have hsz := hrel.cells_size
   have hcs : c.size = c'.size := by simpa using hc.1
   split at h
   ·cases h
   ·rename_i hne
    rw [if_neg (by rw [hsz, hcs]; exact hne)]
    refine iC ps _ _ r (fun q hq => hv q (by simp [hq])) (fun q hq => h1 q (by simp [hq])) ?_ h
    have e : ∀ (a c : Array Value), (a.zipIdx.foldl (fun cs (c, j) => cs.setIfInBounds (off + j) c) c) = (a.toList.zipIdx 0).foldl (fun cs (x : Value × Nat) => cs.setIfInBounds (off + x.2) x.1) c := fun a c => by
     rw [← Array.foldl_toList, Array.toList_zipIdx]
    rw [e, e]
    exact iT off _ _ 0 c c' (hrel.cells (h1 p (by simp))) hc
theorem ka : ∀ (fs : List Field) (q : List (Nat × Nat)), fK P fs = some q → ∀ w, (fs.mapM (m := Sem) fun f => Prod.mk f.offset <$> sizeOf f.type).run P w = .ok q w
 | [], q, h, w => by simp [fK] at h; subst h; rfl
 | f :: fs, q, h, w => by
  simp only [fK] at h
  obtain ⟨s, hs, h⟩ := Option.bind_eq_some_iff.1 h
  obtain ⟨q', hq, h⟩ := Option.bind_eq_some_iff.1 h
  injection h with h; subst h
  simp [List.mapM_cons, au hs, ka fs q' hq w]
theorem py {ρc ρa : Operand → Value} {t : TypeId} {ps : Array (Nat × Operand)} {r : Value} (h : jd P t (ps.map fun p => (p.1, ρa p.2)) = some r)
    (hv : ∀ p ∈ ps, VRel P μ sh (ρc p.2) (ρa p.2)) (w : World) :
    ∃ cr, (Instr.build t (ps.map fun p => (p.1, ρc p.2))).run P w = .ok cr w ∧ VRel P μ sh cr r := by
 unfold jd at h
 obtain ⟨z, hz, h⟩ := Option.bind_eq_some_iff.1 h
 split at h
 ·rename_i hp
  simp only [Bool.and_eq_true] at hp
  have hp2 : ∀ p ∈ ps.toList, (ρa p.2).cells.all (·.oneCell') = true := by
   intro p hp'
   have := Array.all_eq_true_iff_forall_mem.1 hp.2 (p.1, ρa p.2) (Array.mem_map.2 ⟨p, by simpa using hp', rfl⟩)
   exact this
  have hz' : LRel (CRel P μ sh) z.cells.toList z.cells.toList := gS hp.1
  split at h
  ·rename_i fs hu
   obtain ⟨q, hq, h⟩ := Option.bind_eq_some_iff.1 h
   obtain ⟨c, hc, h⟩ := Option.bind_eq_some_iff.1 h
   injection h with h; subst h
   obtain ⟨cr, h1, h2⟩ := iC (ρc := ρc) (ρa := ρa) ps.toList z.cells z.cells c (fun p hp => hv p (by simpa using hp)) hp2 hz' (by simpa using hc)
   refine ⟨.agg cr, ?_, h2⟩
   have hm : (fs.mapM (m := Sem) fun f => Prod.mk f.offset <$> sizeOf f.type).run P w = .ok q.toArray w := by
    rw [Array.mapM_eq_mapM_toList]
    simp [ka _ q hq w]
   have h1' : Instr.fill (fun i => q[i]?) z.cells (List.map (fun p => (p.1, ρc p.2)) ps.toList) = some cr := h1
   simp [Instr.build, aE hz, ad hu, hm, h1']
  ·rename_i n e hu
   obtain ⟨s, hs, h⟩ := Option.bind_eq_some_iff.1 h
   obtain ⟨c, hc, h⟩ := Option.bind_eq_some_iff.1 h
   injection h with h; subst h
   obtain ⟨cr, h1, h2⟩ := iC (ρc := ρc) (ρa := ρa) ps.toList z.cells z.cells c (fun p hp => hv p (by simpa using hp)) hp2 hz' (by simpa using hc)
   exact ⟨.agg cr, by simp [Instr.build, aE hz, ad hu, au hs, h1], h2⟩
  ·cases h
 ·cases h
end
end Go.Ab
