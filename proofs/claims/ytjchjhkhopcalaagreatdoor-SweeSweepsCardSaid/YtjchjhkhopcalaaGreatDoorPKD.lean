/- ... -/
import Derived.Test.YtjchjhkhopcalaaGreatDoorPKC
set_option linter.unusedVariables false
set_option linter.unusedSimpArgs false
namespace Go.Ab
def OP {α : Type} (x : Option α) (k : α → Prop) : Prop := match x with
 | some v => k v
 | none => False
theorem ae {α : Type} (v : α) (k : α → Prop) : OP (some v) k = k v := rfl
def OP2 (x : Option (Value × Store)) (k : Value → Store → Prop) : Prop := OP x fun r => k r.1 r.2
def LT (v : Value) (M : Store) (k : Value → Store → Prop) : Prop := k v M
theorem ie (v : Value) (M : Store) (k : Value → Store → Prop) : OP2 (some (v, M)) k = k v M := rfl
theorem eN {α : Type} {x : Option α} {k : α → Prop} : OP x k ↔ ∃ v, x = some v ∧ k v := by cases x <;> simp [OP]
def BR (v : Value) (A B : Prop) : Prop := match v with
 | .bool true => A
 | .bool false => B
 | _ => False
def BR3 (v : Value) (A B C : Prop) : Prop := match v with
 | .bool true => A
 | .bool false => B
 | .tuple _ => C
 | _ => False
def tZ (ops : Array Oper) (j : Nat) : Bool := match ops[j]? with
 | some o => match o.guard with
  | none => false
  | some _ => true
 | none => false
def BRG (g : Bool) (v : Value) (A B C : Prop) : Prop := match g with
 | true => BR3 v A B C
 | false => BR v A B
theorem mh {g : Bool} {v : Value} {A B C : Prop} (h : BRG g v A B C) : (v = .bool true ∧ A) ∨ (v = .bool false ∧ B) ∨ ((∃ l, v = .tuple l) ∧ C) := by
 cases g
 ·simp only [BRG, BR] at h
  split at h
  ·exact .inl ⟨rfl, h⟩
  ·exact .inr (.inl ⟨rfl, h⟩)
  ·exact h.elim
 ·simp only [BRG, BR3] at h
  split at h
  ·exact .inl ⟨rfl, h⟩
  ·exact .inr (.inl ⟨rfl, h⟩)
  ·exact .inr (.inr ⟨⟨_, rfl⟩, h⟩)
  ·exact h.elim
theorem dl (A B : Prop) : BR (.bool true) A B = A := rfl
theorem ib (A B : Prop) : BR (.bool false) A B = B := rfl
def me (agg : Bool) (cs : List Value) : Option Value := bif agg then some (.agg cs.toArray) else match cs with
 | [v] => some v
 | _ => none
theorem kJ (d : TypeDesc) (cs : List Value) : fG d cs = me (gO d) cs := by
 unfold fG me; cases gO d <;> rfl
def ld (s : Nat) (agg : Bool) (a : Value) (M : Store) : Option Value := match a with
 | .pointer (some ⟨b, o, none⟩) => (b8 M b o s).bind fun cs => me agg cs
 | _ => none
def st (s : Nat) (a v : Value) (M : Store) : Option Store := match a with
 | .pointer (some ⟨b, o, none⟩) =>
  match M.get b with
  | some (.inl (c, e, true)) =>
   if s = v.cells.size ∧ o + v.cells.size ≤ c.length ∧ v.cells.all (·.oneCell') = true then
    some (M.set b (some (.inl (aS c o v.cells.toList, e, true)))) else none
  | _ => none
 | _ => none
def gQ (v : Value) : Option (List Value) := if v.cells.all (·.oneCell') = true then some v.cells.toList else none
def jo (z : Array Value) (q : List (Nat × Nat)) (parts : List (Nat × Value)) : Option Value :=
 if parts.all (fun p => p.2.cells.all (·.oneCell')) = true then (Instr.fill (q[·]?) z parts).map Value.agg else none
def tL (z : Array Value) (s : Nat) (parts : List (Nat × Value)) : Option Value :=
 if parts.all (fun p => p.2.cells.all (·.oneCell')) = true then (Instr.fill (fun i => some (i * s, s)) z parts).map Value.agg else none
def bd (z : Value) (s n : Nat) (parts : List (Nat × Value)) : Option (List Value) :=
 if parts.all (fun p => p.2.cells.all (·.oneCell')) = true then (Instr.fill (fun i => some (i * s, s)) (aj z (n * s)) parts).map Array.toList else none
def aW (x : Value) : Option Value := match x with
 | .pointer (some a) => some (.pointer (some a))
 | _ => none
def ab (op : BinOp) (x y : Value) : Option Value := match x, y with
 | .int k a, .int j b =>
  match op with
  | .shl => if b < 0 then none else some (.int k (k.wrap (a * 2 ^ (min b.toNat k.bits))))
  | .shr => if b < 0 then none else some (.int k (a.fdiv (2 ^ (min b.toNat k.bits))))
  | _ => if k ≠ j then none else
   match op with
   | .add => some (.int k (k.wrap (a + b)))
   | .sub => some (.int k (k.wrap (a - b)))
   | .mul => some (.int k (k.wrap (a * b)))
   | .quo => if b = 0 then none else some (.int k (k.wrap (a.tdiv b)))
   | .rem => if b = 0 then none else some (.int k (a.tmod b))
   | .and => some (.int k (k.wrap (BitVec.ofInt k.bits a &&& BitVec.ofInt k.bits b).toNat))
   | .or => some (.int k (k.wrap (BitVec.ofInt k.bits a ||| BitVec.ofInt k.bits b).toNat))
   | .xor => some (.int k (k.wrap (BitVec.ofInt k.bits a ^^^ BitVec.ofInt k.bits b).toNat))
   | .eql => some (.bool (a == b))
   | .neq => some (.bool (a != b))
   | .lss => some (.bool (a < b))
   | .leq => some (.bool (a ≤ b))
   | .gtr => some (.bool (a > b))
   | .geq => some (.bool (a ≥ b))
   | _ => none
 | _, _ => none
def al (op : BinOp) (x y : Value) : Option Value := match x, y with
 | .string a, .string b =>
  match op with
  | .add => if a.size + b.size ≤ 2 ^ 40 then some (.string (a ++ b)) else none
  | .eql => some (.bool (a.data.toList == b.data.toList))
  | .neq => some (.bool (!(a.data.toList == b.data.toList)))
  | .lss => some (.bool (Op.bytesLess a.data.toList b.data.toList))
  | .leq => some (.bool (Op.bytesLess a.data.toList b.data.toList || a.data.toList == b.data.toList))
  | .gtr => some (.bool (!(Op.bytesLess a.data.toList b.data.toList || a.data.toList == b.data.toList)))
  | .geq => some (.bool (!Op.bytesLess a.data.toList b.data.toList))
  | _ => none
 | _, _ => none
theorem sZ {P : Program} {cst : Bool} {op : BinOp} {t : TypeId} {x y v : Value} (h : ab op x y = some v) : dv P cst op t x y = some v := by
 unfold ab at h
 split at h
 ·exact h
 ·cases h
theorem s3 {P : Program} {cst : Bool} {op : BinOp} {t : TypeId} {x y v : Value} (h : al op x y = some v) : dv P cst op t x y = some v := by
 unfold al at h
 split at h
 ·exact h
 ·cases h
def cvI (k : IntKind) (x : Value) : Option Value := match x with
 | .int _ n => some (.int k (k.wrap n))
 | _ => none
def tT (e : TypeId) (x : Value) (M : Store) : Option (Value × Store) := match x with
 | .string s => if 2 ^ 40 < s.size then none else
  some (.slice (some ⟨M.n, 0, none⟩) s.size (s.size + 1), M.push (some (.inl (s.data.toList.map fun b => .int .u8 b.toNat, e, true))))
 | _ => none
def nO (x : Value) (M : Store) : Option Value := match x with
 | .slice none _ _ => some (.string .empty)
 | .slice (some ⟨b, o, none⟩) n _ => if n = 0 then some (.string .empty) else
  (b8 M b o n).bind fun cs => (bk cs).bind fun l => some (.string ⟨l.toArray⟩)
 | _ => none
def tS (x : Value) (M : Store) : Option (Value × Store) := match x with
 | .slice (some ⟨b, o, none⟩) n c => match M.get b with
  | some (.inl (cs, t, true)) => if 0 < n then some (.slice (some ⟨b, o, none⟩) n c, M.set b (some (.inl (cs, t, true)))) else none
  | _ => none
 | _ => none
def mkI (t : TypeId) (v : Value) : Option Value := if bH v = true then some (.iface t v) else none
def mkF (fn : Fn) (l c : List Value) : Option Value := if kH fn && (l.all bH && c.all bH) then some (.func fn l.toArray c.toArray) else none
def mkS (z : Value) (s by_ : Nat) (e : TypeId) (l c : Value) (M : Store) : Option (Value × Store) := match l, c with
 | .int .i64 l, .int .i64 c =>
  if 0 ≤ l ∧ l ≤ c ∧ c ≤ 2 ^ 40 ∧ by_ * c ≤ 2 ^ 40 then
   some (.slice (some ⟨M.n, 0, none⟩) l.toNat (if l = c then l.toNat else l.toNat + 1),
    M.push (some (.inl (fj z (l.toNat * s), e, true))))
  else none
 | _, _ => none
def slS (x : Value) (lo hi : Option Value) : Option Value := match x with
 | .string s => (ax hi s.size s.size).bind fun h => (ax lo h 0).bind fun l => some (.string (s.extract l h))
 | _ => none
def slV (size : Nat) (e : TypeId) (x : Value) (lo hi : Option Value) (M : Store) : Option Value := match x with
 | .slice a len cap =>
  (ax hi len len).bind fun h => (ax lo h 0).bind fun l =>
   if l = h || bJ M a e then
    some (.slice (a.map (·.add (l * size))) (h - l) (if cap = len ∧ h = len then h - l else if l = h ∧ ¬ (l = 0 ∧ (0 < len ∨ cap = len + 1) ∧ bJ M a e = true) then h - l + 2 else h - l + 1))
   else none
 | _ => none
def slM (size : Nat) (e : TypeId) (x : Value) (lo : Option Value) (hi mx : Value) (M : Store) : Option Value := match x with
 | .slice a len _ =>
  (ax (some mx) len len).bind fun m =>
   (ax (some hi) m m).bind fun h => (ax lo h 0).bind fun l =>
    if l = h || bJ M a e then
     some (.slice (a.map (·.add (l * size))) (h - l) (if h = m then h - l else h - l + 2))
    else none
 | _ => none
def fad (off : Nat) (x : Value) : Option Value := match x with
 | .pointer (some ⟨b, o, none⟩) => some (.pointer (some ⟨b, o + off, none⟩))
 | _ => none
def prt (off s : Nat) (agg : Bool) (x : Value) : Option Value := match x with
 | .agg cs => if off + s ≤ cs.size then me agg (cs.extract off (off + s)).toList else none
 | _ => none
def ixA (s : Nat) (x i : Value) : Option Value := match x, i with
 | .slice (some a) len _, .int _ i => if 0 ≤ i ∧ i < (len : Int) ∧ a.spot = none then some (.pointer (some ⟨a.block, a.off + i.toNat * s, none⟩)) else none
 | _, _ => none
def ixP (s len : Nat) (x i : Value) : Option Value := match x, i with
 | .pointer (some a), .int _ i => if 0 ≤ i ∧ i < (len : Int) ∧ a.spot = none then some (.pointer (some ⟨a.block, a.off + i.toNat * s, none⟩)) else none
 | _, _ => none
def ixS (x i : Value) : Option Value := match x, i with
 | .string s, .int _ i => if 0 ≤ i then (s[i.toNat]?).bind fun b => some (.int .u8 b.toNat) else none
 | _, _ => none
def lku (kd : TypeDesc) (z : Value) (x k : Value) (ok : Bool) (M : Store) : Option Value :=
 if !aV kd k then none else
  let es := match x with
   | .map none => some []
   | .map (some r) => match M.get r with
    | some (.inr (.inl es)) => some es
    | _ => none
   | _ => none
  es.bind fun es => if !(es.all fun e => aV kd e.1) then none else
  let r := match aH k es 0 with
   | some (_, v) => (v, true)
   | none => (z, false)
  some (if ok then .tuple #[r.1, .bool r.2] else r.1)
def mup (kd : TypeDesc) (x k v : Value) (M : Store) : Option Store := match x with
 | .map (some r) => if !aV kd k then none else
  if !(v.cells.all (·.oneCell')) then none else
  match M.get r with
  | some (.inr (.inl es)) => if !(es.all fun e => aV kd e.1) then none else
   match aH k es 0 with
   | some (i, _) => some (M.set r (some (.inr (.inl (es.set i (k, v))))))
   | none => some (M.set r (some (.inr (.inl (es ++ [(k, v)])))))
  | _ => none
 | _ => none
def tup (v : Value) (i : Nat) : Option Value := match v with
 | .tuple vs => vs[i]?
 | _ => none
def newV (s : Nat) (x : Value) (M : Store) : Option (Nat × List Value) := match x with
 | .slice none n _ => if n = 0 then some (0, []) else none
 | .slice (some ⟨b, o, none⟩) n _ => if n = 0 then some (0, []) else (b8 M b o (n * s)).bind fun cs => some (n, cs)
 | _ => none
def rP (x : Value) : Option (Nat × List Value) := match x with
 | .string str => some (str.size, str.data.toList.map fun b => .int .u8 b.toNat)
 | _ => none
def appG (s : Nat) (e : TypeId) (v : Value) (my : Nat × List Value) (M : Store) : Option (Value × Store) := match v with
 | .slice base n cap =>
  if my.1 = 0 then some (.slice base n cap, M) else
  if n + my.1 ≤ 2 ^ 28 then bL base n cap s e my.1 my.2 M else none
 | _ => none
def appV (s : Nat) (e : TypeId) (v x : Value) (M : Store) : Option (Value × Store) := (newV s x M).bind fun my => appG s e v my M
def tJ (s : Nat) (e : TypeId) (v x : Value) (M : Store) : Option (Value × Store) := (rP x).bind fun my => appG s e v my M
def rQ (z : Value) (s : Nat) (x : Value) : Option (Nat × List Value) := match x with
 | .int .i64 n => if 0 ≤ n ∧ n ≤ 2 ^ 28 then some (n.toNat, fj z (n.toNat * s)) else none
 | _ => none
def tK (z : Value) (s : Nat) (e : TypeId) (v x : Value) (M : Store) : Option (Value × Store) := (rQ z s x).bind fun my => appG s e v my M
def tR (x : Value) : Option Value := match x with
 | .slice _ n c => if c = n then some (goInt n) else none
 | _ => none
def lenV (x : Value) : Option Value := match x with
 | .slice _ n _ => some (goInt n)
 | _ => none
def bG (x : Value) : Option Value := match x with
 | .string s => some (goInt s.size)
 | _ => none
def ua (x : Value) (M : Store) : Option Value := match x with
 | .map none => some (goInt 0)
 | .map (some r) => match M.get r with
  | some (.inr (.inl es)) => some (goInt es.length)
  | _ => none
 | _ => none
def Runs (P : Program) (E : Ext) (f : FuncId) (args : Array Value) (M : Store) (Q : Value → Store → Prop) : Prop :=
 ∃ k v M', aq P E k true f args M = some (v, M') ∧ Q v M'
def RunsY (P : Program) (E : Ext) (l : Nat) (args : Array Value) (M : Store) (Q : Value → Store → Prop) : Prop :=
 ∃ k v M', aq P E k false l args M = some (v, M') ∧ Q v M'
def p5 (P : Program) (E : Ext) (f : Value) (args : List Value) (M : Store) (K : Value → Store → Prop) : Prop := match f with
 | .func (.func g) first captured => Runs P E g (first.toList ++ (args ++ captured.toList)).toArray M K
 | .func (.yield l) first _ => RunsY P E l (first.toList ++ args).toArray M K
 | _ => False
theorem Runs.mono {P : Program} {E : Ext} {f : FuncId} {args : Array Value} {M : Store} {Q R : Value → Store → Prop} (h : Runs P E f args M Q) (k : ∀ v M', Q v M' → R v M') : Runs P E f args M R := by
 obtain ⟨n, v, M', h1, h2⟩ := h
 exact ⟨n, v, M', h1, k _ _ h2⟩
theorem RunsY.mono {P : Program} {E : Ext} {f : Nat} {args : Array Value} {M : Store} {Q R : Value → Store → Prop} (h : RunsY P E f args M Q) (k : ∀ v M', Q v M' → R v M') : RunsY P E f args M R := by
 obtain ⟨n, v, M', h1, h2⟩ := h
 exact ⟨n, v, M', h1, k _ _ h2⟩
def kG (P : Program) (b : Builtin) (ts : List TypeId) (args : List Value) (M : Store) (K : Value → Store → Prop) : Prop :=
 match b, ts, args with
 | .append, t :: xt :: _, [v, x] =>
  match P.underlying t, P.underlying xt with
  | some (.slice e), some (.slice _) =>
   match aB P e, dx P e, bX P e with
   | some s, some y, some z => bif (decide (y ≤ 2 ^ 12) && (decide (0 < s) && decide (z.cells.size = s))) then OP (appV s e v x M) fun r => K r.1 r.2 else False
   | _, _, _ => False
  | some (.slice e), some .string =>
   match aB P e, dx P e, bX P e with
   | some s, some y, some z => bif (decide (y ≤ 2 ^ 12) && (decide (s = 1) && decide (z.cells.size = s))) then OP (tJ s e v x M) fun r => K r.1 r.2 else False
   | _, _, _ => False
  | some (.slice e), some (.int _) =>
   match aB P e, dx P e, bX P e with
   | some s, some y, some z => bif (decide (y ≤ 2 ^ 12) && (decide (0 < s) && (decide (z.cells.size = s) && z.cells.all ao))) then OP (tK z s e v x M) fun r => K r.1 r.2 else False
   | _, _, _ => False
  | _, _ => OP (aD P b ts.toArray args.toArray M) fun r => K r.1 r.2
 | .cap, t :: _, [x] =>
  match P.underlying t with
  | some (.slice _) => OP (tR x) fun v => K v M
  | _ => False
 | .len, t :: _, [x] =>
  match P.underlying t with
  | some (.slice _) => OP (lenV x) fun v => K v M
  | some .string => OP (bG x) fun v => K v M
  | some (.array n _) => K (goInt n) M
  | some (.map _ _) => OP (ua x M) fun v => K v M
  | _ => False
 | .min, _, [x, y] => OP (dE x y) fun v => K v M
 | .max, _, [x, y] => OP (dD x y) fun v => K v M
 | b, ts, args => OP (aD P b ts.toArray args.toArray M) fun r => K r.1 r.2
def kop (P : Program) (E : Ext) (ρ : Operand → Value) (o : Op) (M : Store) (K : Value → Store → Prop) : Prop :=
 match o with
 | .move x => K (ρ x) M
 | .assign x => K (ρ x) M
 | .pick c a b => BR (ρ c) (K (ρ a) M) (K (ρ b) M)
 | .alloc t => match bX P t with
  | some z => bif z.cells.all ao then K (.pointer (some ⟨M.n, 0, none⟩)) (M.push (some (.inl (z.cells.toList, t, true)))) else False
  | none => False
 | .box t x => OP (gQ (ρ x)) fun cs => K (.pointer (some ⟨M.n, 0, none⟩)) (M.push (some (.inl (cs, t, true))))
 | .build t ps => match P.underlying t, bX P t with
  | some (.struct fs), some z => match fK P fs.toList with
   | some q => bif z.cells.all ao then OP (jo z.cells q (ps.toList.map fun p => (p.1, ρ p.2))) fun v => K v M else False
   | none => False
  | some (.array _ e), some z => match aB P e with
   | some s => bif z.cells.all ao then OP (tL z.cells s (ps.toList.map fun p => (p.1, ρ p.2))) fun v => K v M else False
   | none => False
  | _, _ => False
 | .buildSlice t n ps => match P.underlying t with
  | some (.slice e) => match aB P e, bX P e with
   | some s, some z => bif (decide (n * s ≤ 2 ^ 24) && (decide (0 < s) && z.cells.all ao)) then
       OP (bd z s n (ps.toList.map fun p => (p.1, ρ p.2))) fun cs => K (.slice (some ⟨M.n, 0, none⟩) n n) (M.push (some (.inl (cs, e, true)))) else False
   | _, _ => False
  | _ => False
 | .load t a => match P.underlying t, aB P t with
  | some d, some s => OP (ld s (gO d) (ρ a) M) fun v => K v M
  | _, _ => False
 | .store t a x => match aB P t with
  | some s => OP (st s (ρ a) (ρ x) M) fun M' => K undef M'
  | none => False
 | .nilCheck x => OP (aW (ρ x)) fun v => K v M
 | .binOp op t x y _ => match P.underlying t with
  | some (.int _) => OP (ab op (ρ x) (ρ y)) fun v => K v M
  | some .string => OP (al op (ρ x) (ρ y)) fun v => K v M
  | _ => OP (dv P (bQ x || bQ y) op t (ρ x) (ρ y)) fun v => K v M
 | .unOp op _ x => OP (aun op (ρ x)) fun v => K v M
 | .convert s d x => match P.underlying s, P.underlying d with
  | some (.int _), some (.int k) => OP (cvI k (ρ x)) fun v => K v M
  | some .string, some (.slice e) => match P.underlying e, aB P e with
   | some (.int .u8), some 1 => OP (tT e (ρ x) M) fun r => K r.1 r.2
   | _, _ => False
  | some (.slice e), some .string => match P.underlying e with
   | some (.int .u8) => OP (nO (ρ x) M) fun v => K v M
   | _ => False
  | some (.slice e), some (.slice _) => match P.underlying e with
   | some (.int .u8) => bif Nat.beq s d then OP (tS (ρ x) M) fun r => K r.1 r.2 else False
   | _ => False
  | _, _ => OP (bq P s d (ρ x) M) fun r => K r.1 r.2
 | .makeInterface t x => match P.underlying t with
  | some (.interface _) => False
  | some _ => OP (mkI t (ρ x)) fun v => K v M
  | none => False
 | .makeFunc fn first captured => OP (mkF fn (first.toList.map ρ) (captured.toList.map ρ)) fun v => K v M
 | .makeMap t r => match P.underlying t, r with
  | some (.map _ _), none => K (.map (some M.n)) (M.push (some (.inr (.inl []))))
  | _, _ => False
 | .makeSlice t l c => match P.underlying t with
  | some (.slice e) => match aB P e, dx P e, bX P e with
   | some s, some y, some z => bif (z.cells.all ao && decide (0 < s)) then OP (mkS z s y e (ρ l) (ρ c) M) fun r => K r.1 r.2 else False
   | _, _, _ => False
  | _ => False
 | .slice t x lo hi mx => match P.underlying t with
  | some .string => match mx with
   | none => OP (slS (ρ x) (lo.map ρ) (hi.map ρ)) fun v => K v M
   | some _ => False
  | some (.slice e) => match aB P e with
   | some s => match mx, hi with
    | none, hi => OP (slV s e (ρ x) (lo.map ρ) (hi.map ρ) M) fun v => K v M
    | some m, some h => OP (slM s e (ρ x) (lo.map ρ) (ρ h) (ρ m) M) fun v => K v M
    | some _, none => False
   | none => False
  | _ => False
 | .fieldAddr t x f => match P.underlying t with
  | some (.struct fs) => match fs[f]? with
   | some fd => match aB P fd.type with
    | some s => bif Nat.beq s 0 then False else OP (fad fd.offset (ρ x)) fun v => K v M
    | none => False
   | none => False
  | _ => False
 | .field t x f => match P.underlying t with
  | some (.struct fs) => match fs[f]? with
   | some fd => match P.underlying fd.type, aB P fd.type with
    | some d, some s => OP (prt fd.offset s (gO d) (ρ x)) fun v => K v M
    | _, _ => False
   | none => False
  | _ => False
 | .indexAddr t x i => match P.underlying t with
  | some (.slice e) => match aB P e with
   | some s => OP (ixA s (ρ x) (ρ i)) fun v => K v M
   | none => False
  | some (.array len e) => match aB P e with
   | some s => OP (ixP s len (ρ x) (ρ i)) fun v => K v M
   | none => False
  | _ => False
 | .index t x i => match P.underlying t with
  | some .string => OP (ixS (ρ x) (ρ i)) fun v => K v M
  | _ => OP (jf P t (ρ x) (ρ i)) fun v => K v M
 | .lookup t x k ok => match P.underlying t with
  | some (.map kt e) => match P.underlying kt, bX P e with
   | some kd, some z => bif z.cells.all ao then OP (lku kd z (ρ x) (ρ k) ok M) fun v => K v M else False
   | _, _ => False
  | _ => False
 | .mapUpdate t m k x => match P.underlying t with
  | some (.map kt _) => match P.underlying kt with
   | some kd => OP (mup kd (ρ m) (ρ k) (ρ x) M) fun M' => K undef M'
   | none => False
  | _ => False
 | .insert t m k x => match P.underlying t with
  | some (.map kt _) => match P.underlying kt with
   | some kd => OP (mup kd (ρ m) (ρ k) (ρ x) M) fun M' => K undef M'
   | none => False
  | _ => False
 | .extract t i => OP (tup (ρ t) i) fun v => K v M
 | .call c => match c.callee with
  | .builtin b => kG P b c.argTypes.toList (c.args.toList.map ρ) M K
  | .value f => p5 P E (ρ f) (c.args.toList.map ρ) M K
  | .invoke _ _ => False
 | _ => False
def OpRuns (P : Program) (E : Ext) (ρ : Operand → Value) (o : Op) (M : Store) (K : Value → Store → Prop) : Prop :=
 (∃ v M', aop P ρ o M = some (.inl v, M') ∧ K v M') ∨
 ∃ g f args M1, aop P ρ o M = some (.inr (g, f, args), M1) ∧ ∃ k v M', aq P E k g f args M1 = some (v, M') ∧ K v M'
theorem OpRuns.val {P : Program} {E : Ext} {ρ : Operand → Value} {o : Op} {M : Store} {K : Value → Store → Prop} {x : Option Value}
    (h : OP x fun v => K v M) (e : ∀ v, x = some v → aop P ρ o M = some (.inl v, M)) : OpRuns P E ρ o M K := by
 obtain ⟨v, h1, h2⟩ := eN.1 h
 exact .inl ⟨v, M, e v h1, h2⟩
theorem OpRuns.sto {P : Program} {E : Ext} {ρ : Operand → Value} {o : Op} {M : Store} {K : Value → Store → Prop} {x : Option Store}
    (h : OP x fun M' => K undef M') (e : ∀ v, x = some v → aop P ρ o M = some (.inl undef, v)) : OpRuns P E ρ o M K := by
 obtain ⟨v, h1, h2⟩ := eN.1 h
 exact .inl ⟨_, v, e v h1, h2⟩
theorem OpRuns.both {P : Program} {E : Ext} {ρ : Operand → Value} {o : Op} {M : Store} {K : Value → Store → Prop} {x : Option (Value × Store)}
    (h : OP x fun r => K r.1 r.2) (e : ∀ v, x = some v → aop P ρ o M = some (.inl v.1, v.2)) : OpRuns P E ρ o M K := by
 obtain ⟨v, h1, h2⟩ := eN.1 h
 exact .inl ⟨_, _, e v h1, h2⟩
theorem oK {P : Program} {e xt e' : TypeId} {s : Nat} {x : Value} {M : Store} {my : Nat × List Value} (hu : P.underlying xt = some (.slice e')) (h : newV s x M = some my) : dp P e xt s x M = some my := by
 unfold dp
 rw [hu]
 unfold newV at h
 split at h
 ·exact h
 ·exact h
 ·cases h
theorem nC {P : Program} {e xt : TypeId} {x : Value} {M : Store} {my : Nat × List Value} (hu : P.underlying xt = some .string) (h : rP x = some my) : dp P e xt 1 x M = some my := by
 unfold dp
 rw [hu]
 unfold rP at h
 split at h
 ·simp only [if_true]; exact h
 ·cases h
theorem qH {P : Program} {e xt : TypeId} {k : IntKind} {s y : Nat} {z x : Value} {M : Store} {my : Nat × List Value} (hu : P.underlying xt = some (.int k)) (hz : bX P e = some z) (hy : dx P e = some y) (h1 : y ≤ 2 ^ 12) (h2 : z.cells.size = s)
    (h3 : z.cells.all ao = true) (h : rQ z s x = some my) : dp P e xt s x M = some my := by
 unfold rQ at h
 split at h
 ·split at h
  ·rename_i n hn
   unfold dp
   rw [hu]
   simp only []
   rw [hz, Option.bind_some, hy, if_pos ⟨hn.1, hn.2, h1, h2, h3⟩]; exact h
  ·cases h
 ·cases h
theorem ip {P : Program} {ts : Array TypeId} {t xt e : TypeId} {s y : Nat} {z v x : Value} {M : Store} {my : Nat × List Value} {r} (ht : ts[0]? = some t) (hxt : ts[1]? = some xt) (hu : P.underlying t = some (.slice e)) (hs : aB P e = some s)
    (hy : dx P e = some y) (hz : bX P e = some z) (hn : dp P e xt s x M = some my) (h1 : y ≤ 2 ^ 12) (h2 : 0 < s) (h3 : z.cells.size = s) (hg : appG s e v my M = some r) : bZ P ts v x M = some r := by
 unfold bZ
 rw [ht, Option.bind_some, hxt, Option.bind_some, hu]
 simp only [jE, Option.bind_some]
 rw [hs, Option.bind_some, hy, Option.bind_some, hz, Option.bind_some, hn, Option.bind_some]
 unfold appG at hg
 split at hg
 ·split at hg
  ·rename_i h0; simp only [h0, if_true]; exact hg
  ·rename_i h0
   split at hg
   ·rename_i h4
    simp only [if_neg h0]
    rw [if_pos ⟨h4, h1, h2, h3⟩]; exact hg
   ·cases hg
 ·cases hg
theorem l5 {P : Program} {E : Ext} {ρ : Operand → Value} {c : Call} {b : Builtin} (hc : c.callee = .builtin b) {M : Store} {K : Value → Store → Prop}
    (h : kG P b c.argTypes.toList (c.args.toList.map ρ) M K) : OpRuns P E ρ (.call c) M K := by
 have key : ∀ r, aD P b c.argTypes (c.args.map ρ) M = some r → aop P ρ (.call c) M = some (.inl r.1, r.2) := by
  intro r hr
  unfold aop; simp only [hc]; rw [hr]; rfl
 have gen : (OP (aD P b c.argTypes.toList.toArray (c.args.toList.map ρ).toArray M) fun r => K r.1 r.2) → OpRuns P E ρ (.call c) M K := by
  intro h
  refine .both h fun v hv => key v ?_
  have e1 : (c.args.toList.map ρ).toArray = c.args.map ρ := by rw [← Array.toList_map]
  have e2 : c.argTypes.toList.toArray = c.argTypes := rfl
  rw [e1, e2] at hv; exact hv
 have hargs : ∀ l, c.args.toList.map ρ = l → (c.args.map ρ).toList = l := fun l hl => by rw [Array.toList_map]; exact hl
 unfold kG at h
 split at h
 ·rename_i t xt ts v x hts hxs
  have hx := hargs _ hxs
  have ht : c.argTypes[0]? = some t := by rw [← Array.getElem?_toList, hts]; rfl
  have hxt : c.argTypes[1]? = some xt := by rw [← Array.getElem?_toList, hts]; rfl
  have hab : aD P .append c.argTypes (c.args.map ρ) M = bZ P c.argTypes v x M := by
   unfold aD; rw [hx]
  split at h
  ·rename_i e e' hu hu'
   split at h
   ·rename_i s y z hs hy hz
    cases hb : (decide (y ≤ 2 ^ 12) && (decide (0 < s) && decide (z.cells.size = s))) with
    | false => rw [hb] at h; exact h.elim
    | true =>
     rw [hb] at h
     simp only [Bool.and_eq_true, decide_eq_true_eq] at hb
     refine .both h fun r hr => key r ?_
     simp only [cond_true, appV] at hr
     obtain ⟨my, h1, h2⟩ := Option.bind_eq_some_iff.1 hr
     rw [hab]
     exact ip ht hxt hu hs hy hz (oK hu' h1) hb.1 hb.2.1 hb.2.2 h2
   ·exact h.elim
  ·rename_i e hu hu'
   split at h
   ·rename_i s y z hs hy hz
    cases hb : (decide (y ≤ 2 ^ 12) && (decide (s = 1) && decide (z.cells.size = s))) with
    | false => rw [hb] at h; exact h.elim
    | true =>
     rw [hb] at h
     simp only [Bool.and_eq_true, decide_eq_true_eq] at hb
     refine .both h fun r hr => key r ?_
     simp only [cond_true, tJ] at hr
     obtain ⟨my, h1, h2⟩ := Option.bind_eq_some_iff.1 hr
     obtain ⟨hb1, rfl, hb3⟩ := hb
     rw [hab]
     exact ip ht hxt hu hs hy hz (nC hu' h1) hb1 (Nat.zero_lt_one) hb3 h2
   ·exact h.elim
  ·rename_i e k hu hu'
   split at h
   ·rename_i s y z hs hy hz
    cases hb : (decide (y ≤ 2 ^ 12) && (decide (0 < s) && (decide (z.cells.size = s) && z.cells.all ao))) with
    | false => rw [hb] at h; exact h.elim
    | true =>
     rw [hb] at h
     simp only [Bool.and_eq_true, decide_eq_true_eq] at hb
     refine .both h fun r hr => key r ?_
     simp only [cond_true, tK] at hr
     obtain ⟨my, h1, h2⟩ := Option.bind_eq_some_iff.1 hr
     rw [hab]
     exact ip ht hxt hu hs hy hz (qH hu' hz hy hb.1 hb.2.2.1 hb.2.2.2 h1) hb.1 hb.2.1 hb.2.2.1 h2
   ·exact h.elim
  ·exact gen h
 ·rename_i t ts x hts hxs
  have hx := hargs _ hxs
  have ht : c.argTypes[0]? = some t := by rw [← Array.getElem?_toList, hts]; rfl
  have hab : aD P .cap c.argTypes (c.args.map ρ) M = (ny P t x).bind fun v => some (v, M) := by
   unfold aD; rw [hx]; simp only [ht, Option.bind_some]
  split at h
  ·rename_i e hu
   refine .val h fun v hv => key (v, M) ?_
   unfold tR at hv
   split at hv
   ·rw [hab]; simp only [ny, hu]; rw [hv]; rfl
   ·cases hv
  ·exact h.elim
 ·rename_i t ts x hts hxs
  have hx := hargs _ hxs
  have ht : c.argTypes[0]? = some t := by rw [← Array.getElem?_toList, hts]; rfl
  have hab : aD P .len c.argTypes (c.args.map ρ) M = (eC P t x M).bind fun v => some (v, M) := by
   unfold aD; rw [hx]; simp only [ht, Option.bind_some]
  have hl : ∀ v, eC P t x M = some v → aop P ρ (.call c) M = some (.inl v, M) := fun v hv => key (v, M) (by rw [hab, hv]; rfl)
  split at h
  ·rename_i e hu
   refine .val h fun v hv => hl v ?_
   unfold lenV at hv
   split at hv
   ·simp only [eC, hu]; exact hv
   ·cases hv
  ·rename_i hu
   refine .val h fun v hv => hl v ?_
   unfold bG at hv
   split at hv
   ·simp only [eC, hu]; exact hv
   ·cases hv
  ·rename_i n e hu
   exact .inl ⟨_, M, hl _ (by simp only [eC, hu]), h⟩
  ·rename_i kt e hu
   refine .val h fun v hv => hl v ?_
   unfold ua at hv
   split at hv
   ·simp only [eC, hu]; exact hv
   ·split at hv
    ·rename_i r es hg
     simp only [eC, hu, hg]; exact hv
    ·cases hv
   ·cases hv
  ·exact h.elim
 ·rename_i x y hxs
  have hx := hargs _ hxs
  exact .val h fun v hv => key (v, M) (by unfold aD; rw [hx]; simp only [hv, Option.bind_some])
 ·rename_i x y hxs
  have hx := hargs _ hxs
  exact .val h fun v hv => key (v, M) (by unfold aD; rw [hx]; simp only [hv, Option.bind_some])
 ·exact gen h
end Go.Ab

set_option linter.unusedVariables false
set_option linter.unusedSimpArgs false
namespace Go.Ab
theorem jA {P : Program} {E : Ext} {ρ : Operand → Value} {o : Op} {M : Store} {K : Value → Store → Prop} (h : kop P E ρ o M K) : OpRuns P E ρ o M K := by
 cases o <;> try (exact h.elim)
 case move x => exact .inl ⟨_, _, rfl, h⟩
 case assign x => exact .inl ⟨_, _, rfl, h⟩
 case pick c a b =>
  simp only [kop] at h
  unfold BR at h
  split at h
  ·rename_i hc; exact .inl ⟨_, M, by simp only [aop, hc, if_true], h⟩
  ·rename_i hc; exact .inl ⟨_, M, by simp only [aop, hc]; rfl, h⟩
  ·exact h.elim
 case alloc t =>
  simp only [kop] at h
  split at h
  ·rename_i z hz
   cases hp : z.cells.all ao with
   | false => rw [hp] at h; exact h.elim
   | true => rw [hp] at h; exact .inl ⟨_, _, by simp only [aop, fZ, hz, Option.bind_some, hp, if_true], h⟩
  ·exact h.elim
 case box t x =>
  simp only [kop] at h
  obtain ⟨v, h1, h2⟩ := eN.1 h
  unfold gQ at h1
  split at h1
  ·rename_i hp; injection h1 with h1; subst h1; exact .inl ⟨_, _, by simp only [aop, kq, hp, if_true, Option.bind_some], h2⟩
  ·cases h1
 case build t ps =>
  have hall : (ps.map fun (p : Nat × Operand) => (p.1, ρ p.2)).toList = ps.toList.map fun p => (p.1, ρ p.2) := by rw [Array.toList_map]
  have hal : ∀ f : Nat × Value → Bool, (ps.map fun (p : Nat × Operand) => (p.1, ρ p.2)).all f = (ps.toList.map fun p => (p.1, ρ p.2)).all f := fun f => by rw [← hall, Array.all_toList]
  simp only [kop] at h
  split at h
  ·rename_i fs z hu hz
   split at h
   ·rename_i q hq
    cases hp : z.cells.all ao with
    | false => rw [hp] at h; exact h.elim
    | true =>
     rw [hp] at h
     refine .val h fun v hv => ?_
     unfold jo at hv
     split at hv
     ·rename_i hp2
      simp only [aop, jd, hz, Option.bind_some, hp, Bool.true_and]
      rw [if_pos (by rw [hal]; exact hp2)]
      simp only [hu, hq, Option.bind_some, hall]
      cases hf : Instr.fill (q[·]?) z.cells (ps.toList.map fun p => (p.1, ρ p.2)) with
      | none => rw [hf] at hv; cases hv
      | some c => rw [hf] at hv; simp only [Option.map_some, Option.some.injEq] at hv; subst hv; rfl
     ·cases hv
   ·exact h.elim
  ·rename_i n e z hu hz
   split at h
   ·rename_i s hs
    cases hp : z.cells.all ao with
    | false => rw [hp] at h; exact h.elim
    | true =>
     rw [hp] at h
     refine .val h fun v hv => ?_
     unfold tL at hv
     split at hv
     ·rename_i hp2
      simp only [aop, jd, hz, Option.bind_some, hp, Bool.true_and]
      rw [if_pos (by rw [hal]; exact hp2)]
      simp only [hu, hs, Option.bind_some, hall]
      cases hf : Instr.fill (fun i => some (i * s, s)) z.cells (ps.toList.map fun p => (p.1, ρ p.2)) with
      | none => rw [hf] at hv; cases hv
      | some c => rw [hf] at hv; simp only [Option.map_some, Option.some.injEq] at hv; subst hv; rfl
     ·cases hv
   ·exact h.elim
  ·exact h.elim
 case buildSlice t n ps =>
  have hall : (ps.map fun (p : Nat × Operand) => (p.1, ρ p.2)).toList = ps.toList.map fun p => (p.1, ρ p.2) := by rw [Array.toList_map]
  have hal : ∀ f : Nat × Value → Bool, (ps.map fun (p : Nat × Operand) => (p.1, ρ p.2)).all f = (ps.toList.map fun p => (p.1, ρ p.2)).all f := fun f => by rw [← hall, Array.all_toList]
  simp only [kop] at h
  split at h
  ·rename_i e hu
   split at h
   ·rename_i s z hs hz
    cases hp : (decide (n * s ≤ 2 ^ 24) && (decide (0 < s) && z.cells.all ao)) with
    | false => rw [hp] at h; exact h.elim
    | true =>
     rw [hp] at h
     obtain ⟨cs, h1, h2⟩ := eN.1 h
     unfold bd at h1
     split at h1
     ·rename_i hp2
      simp only [Bool.and_eq_true, decide_eq_true_eq] at hp
      cases hf : Instr.fill (fun i => some (i * s, s)) (aj z (n * s)) (ps.toList.map fun p => (p.1, ρ p.2)) with
      | none => rw [hf] at h1; cases h1
      | some c =>
       rw [hf] at h1; simp only [Option.map_some, Option.some.injEq] at h1; subst h1
       refine .inl ⟨_, _, ?_, h2⟩
       simp only [aop, co, hu, hs, hz, Option.bind_some]
       rw [if_pos (by simp only [Bool.and_eq_true, decide_eq_true_eq]; exact ⟨hp.1, ⟨hp.2.1, hp.2.2⟩, by rw [hal]; exact hp2⟩)]
       simp only [hall, hf, Option.bind_some]
     ·cases h1
   ·exact h.elim
  ·exact h.elim
 case load t a =>
  simp only [kop] at h
  split at h
  ·rename_i d s hd hs
   refine .val h fun v hv => ?_
   unfold ld at hv
   split at hv
   ·rename_i b o ha
    simp only [aop, ee, ha, hd, hs, Option.bind_some, kJ]
    rw [hv]; rfl
   ·cases hv
  ·exact h.elim
 case store t a x =>
  simp only [kop] at h
  split at h
  ·rename_i s hs
   refine .sto h fun v hv => ?_
   unfold st at hv
   split at hv
   ·rename_i b o ha
    split at hv
    ·rename_i c e hg
     split at hv
     ·rename_i hc
      simp only [aop, jm, ha, hg]
      injection hv with hv; subst hv
      rw [if_pos ⟨by rw [hs, hc.1], hc.2⟩]; rfl
     ·cases hv
    ·cases hv
   ·cases hv
  ·exact h.elim
 case nilCheck x =>
  simp only [kop] at h
  refine .val h fun v hv => ?_
  unfold aW at hv
  split at hv
  ·rename_i a ha; injection hv with hv; subst hv; simp only [aop, ha]
  ·cases hv
 case binOp op t x y yt =>
  simp only [kop] at h
  split at h
  ·exact .val h fun v hv => by simp only [aop, sZ hv, Option.bind_some]
  ·exact .val h fun v hv => by simp only [aop, s3 hv, Option.bind_some]
  ·exact .val h fun v hv => by simp only [aop, hv, Option.bind_some]
 case unOp op t x =>
  simp only [kop] at h
  exact .val h fun v hv => by simp only [aop, hv, Option.bind_some]
 case convert s d x =>
  simp only [kop] at h
  split at h
  ·rename_i k1 k hs hd
   refine .val h fun v hv => ?_
   unfold cvI at hv
   split at hv
   ·rename_i k2 n hx; injection hv with hv; subst hv; simp only [aop, hx, bq, hs, hd, Option.bind_some]
   ·cases hv
  ·rename_i e hs hd
   split at h
   ·rename_i he hz
    refine .both h fun r hr => ?_
    unfold tT at hr
    split at hr
    ·rename_i str hx
     split at hr
     ·cases hr
     ·rename_i hl
      injection hr with hr; subst hr
      simp only [aop, hx, bq, hs, hd, he]
      rw [if_neg (by simp only [Bool.or_eq_true, decide_eq_true_eq, hz]; rintro (h1 | h1); exact hl h1; exact absurd h1 (by decide))]
      rfl
    ·cases hr
   ·exact h.elim
  ·rename_i e hs hd
   split at h
   ·rename_i he
    refine .val h fun v hv => ?_
    unfold nO at hv
    split at hv
    ·rename_i n c hx; injection hv with hv; subst hv; simp only [aop, hx, bq, hs, hd, he, Option.bind_some]
    ·rename_i b o n c hx
     simp only [aop, hx, bq, hs, hd, he]
     split at hv
     ·rename_i h0; injection hv with hv; subst hv; simp only [h0, if_true, Option.bind_some]
     ·rename_i h0
      obtain ⟨cs, h1, h2⟩ := Option.bind_eq_some_iff.1 hv
      obtain ⟨l, h3, h4⟩ := Option.bind_eq_some_iff.1 h2
      injection h4 with h4; subst h4
      simp only [if_neg h0, h1, h3, Option.bind_some]
    ·cases hv
   ·exact h.elim
  ·rename_i e e' hs hd
   split at h
   ·rename_i he
    cases hb : Nat.beq s d with
    | false => rw [hb] at h; exact h.elim
    | true =>
     rw [hb] at h
     refine .both h fun r hr => ?_
     unfold tS at hr
     split at hr
     ·rename_i b o n c hx
      split at hr
      ·rename_i cs t' hg
       split at hr
       ·rename_i hn
        injection hr with hr; subst hr
        simp only [aop, hx, bq, hs, hd, he, hg]
        rw [if_pos ⟨Nat.eq_of_beq_eq_true hb, hn⟩]; rfl
       ·cases hr
      ·cases hr
     ·cases hr
   ·exact h.elim
  ·exact .both h fun r hr => by simp only [aop, hr, Option.bind_some]
 case makeInterface t x =>
  simp only [kop] at h
  split at h
  ·exact h.elim
  ·rename_i d hne hd
   refine .val h fun v hv => ?_
   unfold mkI at hv
   split at hv
   ·rename_i hb; injection hv with hv; subst hv
    simp only [aop]
    split
    ·rename_i hu; rw [hu] at hd; injection hd with hd; exact absurd hd.symm (hne _)
    ·rw [if_pos hb]
    ·rename_i hu; rw [hu] at hd; cases hd
   ·cases hv
  ·exact h.elim
 case makeFunc fn first captured =>
  simp only [kop] at h
  refine .val h fun v hv => ?_
  unfold mkF at hv
  split at hv
  ·rename_i hb
   injection hv with hv; subst hv
   simp only [aop]
   have e1 : (first.map ρ).all bH = (first.toList.map ρ).all bH := by rw [← Array.toList_map, Array.all_toList]
   have e2 : (captured.map ρ).all bH = (captured.toList.map ρ).all bH := by rw [← Array.toList_map, Array.all_toList]
   rw [e1, e2, if_pos hb]
   have e3 : (first.toList.map ρ).toArray = first.map ρ := by rw [← Array.toList_map]
   have e4 : (captured.toList.map ρ).toArray = captured.map ρ := by rw [← Array.toList_map]
   rw [e3, e4]
  ·cases hv
 case makeMap t r =>
  simp only [kop] at h
  split at h
  ·rename_i k e hu; exact .inl ⟨_, _, by simp only [aop, hu], h⟩
  ·exact h.elim
 case makeSlice t l c =>
  simp only [kop] at h
  split at h
  ·rename_i e hu
   split at h
   ·rename_i s y z hs hy hz
    cases hp : (z.cells.all ao && decide (0 < s)) with
    | false => rw [hp] at h; exact h.elim
    | true =>
     rw [hp] at h
     simp only [Bool.and_eq_true, decide_eq_true_eq] at hp
     refine .both h fun r hr => ?_
     unfold mkS at hr
     split at hr
     ·rename_i ln cn hl hc
      split at hr
      ·rename_i hb
       injection hr with hr; subst hr
       simp only [aop, cP, hu, hl, hc, hs, hy, hz, Option.bind_some]
       rw [if_pos ⟨hb.1, hb.2.1, hb.2.2.1, hb.2.2.2, hp.1, hp.2⟩]; rfl
      ·cases hr
     ·cases hr
   ·exact h.elim
  ·exact h.elim
 case slice t x lo hi mx =>
  simp only [kop] at h
  split at h
  ·rename_i hu
   split at h
   ·refine .val h fun v hv => ?_
    unfold slS at hv
    split at hv
    ·rename_i str hx
     simp only [aop, dA, hu, hx, Option.map_none, Option.isSome_none]
     rw [if_neg (by decide), hv]; rfl
    ·cases hv
   ·exact h.elim
  ·rename_i e hu
   split at h
   ·rename_i s hs
    split at h
    ·refine .val h fun v hv => ?_
     unfold slV at hv
     split at hv
     ·rename_i a len cap hx
      simp only [aop, dA, hu, hx, hs, Option.bind_some, Option.map_none]
      rw [hv]; rfl
     ·cases hv
    ·rename_i m hh
     refine .val h fun v hv => ?_
     unfold slM at hv
     split at hv
     ·rename_i a len cap hx
      simp only [aop, dA, hu, hx, hs, Option.bind_some, Option.map_some, Option.isNone_some]
      obtain ⟨mm, h1, h2⟩ := Option.bind_eq_some_iff.1 hv
      rw [h1, Option.bind_some, if_neg (by decide), h2]; rfl
     ·cases hv
    ·exact h.elim
   ·exact h.elim
  ·exact h.elim
 case fieldAddr t x f =>
  simp only [kop] at h
  split at h
  ·rename_i fs hu
   split at h
   ·rename_i fd hf
    split at h
    ·rename_i s hs
     cases h0 : Nat.beq s 0 with
     | true => rw [h0] at h; exact h.elim
     | false =>
      rw [h0] at h
      refine .val h fun v hv => ?_
      unfold fad at hv
      split at hv
      ·rename_i b o hx
       injection hv with hv; subst hv
       simp only [aop, fy, hu, hx, hf, hs, Option.bind_some]
       rw [if_neg (fun e => by subst e; cases h0)]; rfl
      ·cases hv
    ·exact h.elim
   ·exact h.elim
  ·exact h.elim
 case field t x f =>
  simp only [kop] at h
  split at h
  ·rename_i fs hu
   split at h
   ·rename_i fd hf
    split at h
    ·rename_i d s hd hs
     refine .val h fun v hv => ?_
     unfold prt at hv
     split at hv
     ·rename_i cs hx
      simp only [aop, kW, hu, hx, hf, cB, hd, hs, Option.bind_some, kJ]
      rw [hv]; rfl
     ·cases hv
    ·exact h.elim
   ·exact h.elim
  ·exact h.elim
 case indexAddr t x i =>
  simp only [kop] at h
  split at h
  ·rename_i e hu
   split at h
   ·rename_i s hs
    refine .val h fun v hv => ?_
    unfold ixA at hv
    split at hv
    ·rename_i a len cap k j hx hi
     simp only [aop, eb, hu, hx, hi, hs, Option.bind_some]
     rw [hv]; rfl
    ·cases hv
   ·exact h.elim
  ·rename_i len e hu
   split at h
   ·rename_i s hs
    refine .val h fun v hv => ?_
    unfold ixP at hv
    split at hv
    ·rename_i a k j hx hi
     simp only [aop, eb, hu, hx, hi, hs, Option.bind_some]
     rw [hv]; rfl
    ·cases hv
   ·exact h.elim
  ·exact h.elim
 case index t x i =>
  simp only [kop] at h
  split at h
  ·rename_i hu
   refine .val h fun v hv => ?_
   unfold ixS at hv
   split at hv
   ·rename_i str k j hx hi
    simp only [aop, jf, hu, hx, hi]
    rw [hv]; rfl
   ·cases hv
  ·exact .val h fun v hv => by simp only [aop, hv, Option.bind_some]
 case lookup t x k ok =>
  simp only [kop] at h
  split at h
  ·rename_i kt e hu
   split at h
   ·rename_i kd z hk hz
    cases hp : z.cells.all ao with
    | false => rw [hp] at h; exact h.elim
    | true =>
     rw [hp] at h
     refine .val h fun v hv => ?_
     unfold lku at hv
     split at hv
     ·cases hv
     ·rename_i hkv
      have e1 : dU P t (ρ x) (ρ k) ok M = some v := by
       unfold dU
       rw [hu]
       simp only []
       rw [hk, Option.bind_some, if_neg hkv, hz, Option.bind_some, hp, if_neg (by decide)]
       exact hv
      simp only [aop, e1, Option.bind_some]
   ·exact h.elim
  ·exact h.elim
 case mapUpdate t m k x =>
  simp only [kop] at h
  split at h
  ·rename_i kt e hu
   split at h
   ·rename_i kd hk
    refine .sto h fun v hv => ?_
    unfold mup at hv
    split at hv
    ·rename_i r hm
     have e1 : bw P t (ρ m) (ρ k) (ρ x) M = some v := by
      unfold bw
      rw [hu, hm]
      simp only []
      rw [hk, Option.bind_some]
      exact hv
     simp only [aop, e1, Option.bind_some]
    ·cases hv
   ·exact h.elim
  ·exact h.elim
 case insert t m k x =>
  simp only [kop] at h
  split at h
  ·rename_i kt e hu
   split at h
   ·rename_i kd hk
    refine .sto h fun v hv => ?_
    unfold mup at hv
    split at hv
    ·rename_i r hm
     have e1 : bw P t (ρ m) (ρ k) (ρ x) M = some v := by
      unfold bw
      rw [hu, hm]
      simp only []
      rw [hk, Option.bind_some]
      exact hv
     simp only [aop, e1, Option.bind_some]
    ·cases hv
   ·exact h.elim
  ·exact h.elim
 case extract t i =>
  simp only [kop] at h
  refine .val h fun v hv => ?_
  unfold tup at hv
  split at hv
  ·rename_i vs ht; simp only [aop, ht, hv, Option.bind_some]
  ·cases hv
 case call c =>
  simp only [kop] at h
  split at h
  ·rename_i b hb; exact l5 hb h
  ·rename_i f hf
   unfold p5 at h
   split at h
   ·rename_i g first captured hv
    obtain ⟨k, v, M', h1, h2⟩ := h
    refine .inr ⟨true, g, first ++ c.args.map ρ ++ captured, M, by simp only [aop, hf, hv], k, v, M', ?_, h2⟩
    have : first ++ c.args.map ρ ++ captured = (first.toList ++ (c.args.toList.map ρ ++ captured.toList)).toArray := by
     rw [← Array.toList_inj]; simp
    rw [this]; exact h1
   ·rename_i l first captured hv
    obtain ⟨k, v, M', h1, h2⟩ := h
    refine .inr ⟨false, l, first ++ c.args.map ρ, M, by simp only [aop, hf, hv], k, v, M', ?_, h2⟩
    have : first ++ c.args.map ρ = (first.toList ++ c.args.toList.map ρ).toArray := by
     rw [← Array.toList_inj]; simp
    rw [this]; exact h1
   ·exact h.elim
  ·exact h.elim
end Go.Ab

set_option linter.unusedVariables false
set_option linter.unusedSimpArgs false
namespace Go.Ab
def AO (P : Program) (E : Ext) (ops : Array Oper) (l : List Oper) (a : AAct) (M : Store) (K : AAct → Store → Prop) : Prop :=
 ∃ k a' M', bV P (aq P E k) ops l a M = some (a', M') ∧ K a' M'
theorem AO.append {P : Program} {E : Ext} {ops : Array Oper} : ∀ {l r : List Oper} {a : AAct} {M : Store} {K : AAct → Store → Prop}, AO P E ops l a M (fun a M => AO P E ops r a M K) → AO P E ops (l ++ r) a M K
 | [], r, a, M, K, h => by
  obtain ⟨k, a', M', h1, h2⟩ := h
  simp only [bV, Option.some.injEq, Prod.mk.injEq] at h1
  obtain ⟨rfl, rfl⟩ := h1
  exact h2
 | o :: l, r, a, M, K, h => by
  obtain ⟨k, a', M', h1, h2⟩ := h
  rw [dh] at h1
  obtain ⟨s, h3, h4⟩ := Option.bind_eq_some_iff.1 h1
  obtain ⟨k2, a2, M2, h5, h6⟩ := AO.append (l := l) (r := r) ⟨k, a', M', h4, h2⟩
  refine ⟨max k k2, a2, M2, ?_, h6⟩
  rw [List.cons_append, dh, dq (bp P E (Nat.le_max_left k k2)) h3, Option.bind_some]
  exact gr (bp P E (Nat.le_max_right k k2)) _ h5
theorem AO.mono {P : Program} {E : Ext} {ops : Array Oper} {l : List Oper} {a : AAct} {M : Store} {K K' : AAct → Store → Prop} (h : AO P E ops l a M K) (k : ∀ a M, K a M → K' a M) : AO P E ops l a M K' := by
 obtain ⟨n, a', M', h1, h2⟩ := h
 exact ⟨n, a', M', h1, k _ _ h2⟩
theorem OpRuns.step {P : Program} {E : Ext} {ops : Array Oper} {o : Oper} {a : AAct} {M : Store} {K : Value → Store → Prop} (hw : Region.wanted o (AAct.yielded ops a) = true) (h : OpRuns P E a.eval o.op M K) :
    ∃ k v M', aU P (aq P E k) ops o a M = some (a.put o.dst v, M') ∧ K v M' := by
 rcases h with ⟨v, M', h1, h2⟩ | ⟨g, f, args, M1, h1, k, v, M', h2, h3⟩
 ·exact ⟨0, v, M', by rw [aU, if_pos hw, h1], h2⟩
 ·exact ⟨k, v, M', by rw [aU, if_pos hw, h1]; simp only [h2], h3⟩
theorem AO.cons {P : Program} {E : Ext} {ops : Array Oper} {o : Oper} {l : List Oper} {a : AAct} {M : Store} {K : AAct → Store → Prop} (hw : Region.wanted o (AAct.yielded ops a) = true)
    (h : OpRuns P E a.eval o.op M fun v M' => AO P E ops l (a.put o.dst v) M' K) : AO P E ops (o :: l) a M K := by
 obtain ⟨k, v, M', h1, k2, a2, M2, h2, h3⟩ := h.step hw
 refine ⟨max k k2, a2, M2, ?_, h3⟩
 rw [dh, dq (bp P E (Nat.le_max_left k k2)) h1, Option.bind_some]
 exact gr (bp P E (Nat.le_max_right k k2)) _ h2
theorem AO.skip {P : Program} {E : Ext} {ops : Array Oper} {o : Oper} {l : List Oper} {a : AAct} {M : Store} {K : AAct → Store → Prop} (hw : Region.wanted o (AAct.yielded ops a) = false)
    (h : AO P E ops l (a.put o.dst undef) M K) : AO P E ops (o :: l) a M K := by
 obtain ⟨k, a', M', h1, h2⟩ := h
 refine ⟨k, a', M', ?_, h2⟩
 rw [dh, aU, if_neg (by rw [hw]; decide), Option.bind_some]
 exact h1
def gEq : Option (Nat × Bool) → Option (Nat × Bool) → Bool
 | none, none => true
 | some (i, b), some (j, c) => Nat.beq i j && (b == c)
 | _, _ => false
theorem tY {a b : Option (Nat × Bool)} (h : gEq a b = true) : a = b := by
 cases a <;> cases b <;> simp [gEq] at h
 ·rfl
 ·rename_i p q
  obtain ⟨h1, h2⟩ := h
  obtain ⟨i, b⟩ := p; obtain ⟨j, c⟩ := q
  simp only at h1 h2
  subst h1; subst h2
  rfl
abbrev Grp := Option (Nat × Bool) × List Oper
def jy : List Oper → List Grp
 | [] => []
 | o :: r => match jy r with
  | (g, l) :: q => bif gEq o.guard g then (g, o :: l) :: q else (o.guard, [o]) :: (g, l) :: q
  | [] => [(o.guard, [o])]
def iD : List Grp → List Oper
 | [] => []
 | (_, l) :: q => l ++ iD q
def sB (gs : List Grp) : Prop := ∀ g l, (g, l) ∈ gs → ∀ o ∈ l, o.guard = g
theorem mH : ∀ l : List Oper, iD (jy l) = l ∧ sB (jy l)
 | [] => ⟨rfl, fun _ _ h => by cases h⟩
 | o :: r => by
  obtain ⟨h1, h2⟩ := mH r
  unfold jy
  split
  ·rename_i g l q hq
   rw [hq] at h1 h2
   cases hg : gEq o.guard g with
   | true =>
    refine ⟨by simp only [cond_true, iD, List.cons_append]; rw [show l ++ iD q = r from h1], ?_⟩
    intro g' l' hm o' ho'
    simp only [cond_true, List.mem_cons, Prod.mk.injEq] at hm
    rcases hm with ⟨rfl, rfl⟩ | hm
    ·rcases List.mem_cons.1 ho' with rfl | ho'
     ·exact tY hg
     ·exact h2 _ _ List.mem_cons_self _ ho'
    ·exact h2 _ _ (List.mem_cons_of_mem _ hm) _ ho'
   | false =>
    refine ⟨by simp only [cond_false, iD, List.cons_append, List.nil_append]; rw [show l ++ iD q = r from h1], ?_⟩
    intro g' l' hm o' ho'
    simp only [cond_false] at hm
    rcases List.mem_cons.1 hm with hm | hm
    ·injection hm with e1 e2; subst e1; subst e2
     rcases List.mem_cons.1 ho' with rfl | ho'
     ·rfl
     ·cases ho'
    ·exact h2 _ _ hm _ ho'
  ·rename_i hq
   rw [hq] at h1
   refine ⟨by simp only [iD, List.cons_append, List.nil_append]; rw [show ([] : List Oper) = r from h1], ?_⟩
   intro g' l' hm o' ho'
   rcases List.mem_cons.1 hm with hm | hm
   ·injection hm with e1 e2; subst e1; subst e2
    rcases List.mem_cons.1 ho' with rfl | ho'
    ·rfl
    ·cases ho'
   ·cases hm
def l7 (P : Program) (E : Ext) : List Oper → AAct → Store → (AAct → Store → Prop) → Prop
 | [], a, M, K => K a M
 | o :: r, a, M, K => kop P E a.eval o.op M fun v M' => l7 P E r (a.put o.dst v) M' K
def jL : List Oper → AAct → AAct
 | [], a => a
 | o :: r, a => jL r (a.put o.dst undef)
def lw (d : Nat) : List Oper → Bool
 | [] => true
 | o :: r => (match o.dst with
  | none => true
  | some e => !Nat.beq e d) && lw d r
def cD (P : Program) (E : Ext) (ops : Array Oper) : List Grp → AAct → Store → (AAct → Store → Prop) → Prop
 | [], a, M, K => K a M
 | (none, l) :: q, a, M, K => l7 P E l a M fun a M => cD P E ops q a M K
 | (some (j, want), l) :: q, a, M, K => match (ops[j]?).bind (·.dst) with
  | none => False
  | some d => bif lw d l then
      BRG (tZ ops j) (a.get d)
       (bif want then l7 P E l (a.put (some d) (.bool true)) M fun a M => cD P E ops q a M K else cD P E ops q (jL l (a.put (some d) (.bool true))) M K)
       (bif want then cD P E ops q (jL l (a.put (some d) (.bool false))) M K else l7 P E l (a.put (some d) (.bool false)) M fun a M => cD P E ops q a M K)
       (cD P E ops q (jL l a) M K)
   else False
theorem iJ {a : AAct} {d : Nat} {b : Bool} (h : a.get d = .bool b) : a.put (some d) (.bool b) = a := by
 obtain ⟨⟨n, f⟩, ds⟩ := a
 simp only [AAct.get, PT.get] at h
 cases hb : Nat.blt d n with
 | false => rw [hb] at h; cases h
 | true =>
  rw [hb] at h
  simp only [cond_true] at h
  simp only [AAct.put, PT.put]
  congr 2
  funext j
  cases hj : Nat.beq j d with
  | false => rfl
  | true => rw [Nat.eq_of_beq_eq_true hj, h]; rfl
theorem fC {P : Program} {E : Ext} {ops : Array Oper} (J : AAct → Prop) : ∀ (l : List Oper) (a : AAct) (M : Store) (K : AAct → Store → Prop),
    (∀ o ∈ l, ∀ a, J a → Region.wanted o (AAct.yielded ops a) = true ∧ ∀ v, J (a.put o.dst v)) → J a → l7 P E l a M K → AO P E ops l a M K
 | [], a, M, K, _, _, h => ⟨0, a, M, rfl, h⟩
 | o :: l, a, M, K, hJ, ha, h => by
  have h1 := hJ o List.mem_cons_self a ha
  refine .cons h1.1 ?_
  have h2 := jA h
  rcases h2 with ⟨v, M', e, hk⟩ | ⟨g, f, args, M1, e, k, v, M', hc, hk⟩
  ·exact .inl ⟨v, M', e, fC J l _ _ K (fun o ho => hJ o (List.mem_cons_of_mem _ ho)) (h1.2 v) hk⟩
  ·exact .inr ⟨g, f, args, M1, e, k, v, M', hc, fC J l _ _ K (fun o ho => hJ o (List.mem_cons_of_mem _ ho)) (h1.2 v) hk⟩
theorem jB {d : Nat} : ∀ {l : List Oper}, lw d l = true → ∀ o ∈ l, o.dst ≠ some d
 | [], _, _, ho => by cases ho
 | o :: r, h, o', ho' => by
  simp only [lw, Bool.and_eq_true] at h
  rcases List.mem_cons.1 ho' with rfl | ho'
  ·intro e
   rw [e] at h
   simp at h
  ·exact jB h.2 o' ho'
theorem gR {P : Program} {E : Ext} {ops : Array Oper} (J : AAct → Prop) : ∀ (l : List Oper) (a : AAct) (M : Store) (K : AAct → Store → Prop),
    (∀ o ∈ l, ∀ a, J a → Region.wanted o (AAct.yielded ops a) = false ∧ ∀ v, J (a.put o.dst v)) → J a → K (jL l a) M → AO P E ops l a M K
 | [], a, M, K, _, _, h => ⟨0, a, M, rfl, h⟩
 | o :: l, a, M, K, hJ, ha, h => by
  have h1 := hJ o List.mem_cons_self a ha
  exact .skip h1.1 (gR J l _ _ K (fun o ho => hJ o (List.mem_cons_of_mem _ ho)) (h1.2 _) h)
theorem fq {P : Program} {E : Ext} {ops : Array Oper} : ∀ (gs : List Grp) (a : AAct) (M : Store) (K : AAct → Store → Prop), sB gs → cD P E ops gs a M K → AO P E ops (iD gs) a M K
 | [], a, M, K, _, h => ⟨0, a, M, rfl, h⟩
 | (none, l) :: q, a, M, K, hg, h => by
  refine AO.append (AO.mono (fC (fun _ => True) l a M _ (fun o ho a _ => ⟨?_, fun _ => trivial⟩) trivial h) ?_)
  ·have := hg _ _ List.mem_cons_self o ho
   unfold Region.wanted; rw [this]
  ·exact fun a M h => fq q a M K (fun g l hm => hg g l (List.mem_cons_of_mem _ hm)) h
 | (some (j, want), l) :: q, a, M, K, hg, h => by
  have ih := fun a M h => fq (P := P) (E := E) (ops := ops) q a M K (fun g l hm => hg g l (List.mem_cons_of_mem _ hm)) h
  simp only [cD] at h
  split at h
  ·exact h.elim
  ·rename_i d hd
   cases hn : lw d l with
   | false => rw [hn] at h; exact h.elim
   | true =>
    rw [hn] at h
    simp only [cond_true] at h
    have hy : ∀ (b : Bool) (a : AAct), a.get d = .bool b → AAct.yielded ops a j = some b := fun b a ha => by
     simp only [AAct.yielded, hd]
     have : a.t.get d = .bool b := ha
     rw [this]
    have hJ : ∀ b : Bool, ∀ o ∈ l, ∀ a : AAct, a.get d = .bool b → ∀ v, (a.put o.dst v).get d = .bool b := fun b o ho a ha v => by
     rw [f0, if_neg (fun e => jB hn o ho e.1)]; exact ha
    have hw : ∀ b : Bool, ∀ o ∈ l, ∀ a : AAct, a.get d = .bool b → Region.wanted o (AAct.yielded ops a) = (b == want) := fun b o ho a ha => by
     have := hg _ _ List.mem_cons_self o ho
     unfold Region.wanted; rw [this]; simp only [hy b a ha]; cases b <;> cases want <;> rfl
    have main : ∀ b : Bool, a.get d = .bool b → (bif (b == want) then l7 P E l a M fun a M => cD P E ops q a M K else cD P E ops q (jL l a) M K) → AO P E ops (l ++ iD q) a M K := by
     intro b hb h
     refine AO.append ?_
     cases hbw : (b == want) with
     | true =>
      rw [hbw] at h
      exact (fC (fun a => a.get d = .bool b) l a M _ (fun o ho a ha => ⟨by rw [hw b o ho a ha, hbw], hJ b o ho a ha⟩) hb h).mono ih
     | false =>
      rw [hbw] at h
      exact gR (fun a => a.get d = .bool b) l a M _ (fun o ho a ha => ⟨by rw [hw b o ho a ha, hbw], hJ b o ho a ha⟩) hb (ih _ _ h)
    rcases mh h with ⟨hb, h⟩ | ⟨hb, h⟩ | ⟨⟨u, hb⟩, h⟩
    ·rw [iJ hb] at h
     refine main true hb ?_
     cases want <;> exact h
    ·rw [iJ hb] at h
     refine main false hb ?_
     cases want <;> exact h
    ·refine AO.append (gR (fun a => a.get d = .tuple u) l a M _ (fun o ho a ha => ⟨?_, fun v => ?_⟩) hb (ih _ _ h))
     ·have := hg _ _ List.mem_cons_self o ho
      have hy : AAct.yielded ops a j = none := by
       simp only [AAct.yielded, hd]
       have : a.t.get d = .tuple u := ha
       rw [this]
      unfold Region.wanted; rw [this]; simp only [hy]; rfl
     ·rw [f0, if_neg (fun e => jB hn o ho e.1)]; exact ha
def eh (o : Op) : Bool := match o with
 | .load _ _ | .convert _ _ _ | .slice _ _ _ _ _ | .lookup _ _ _ _ | .call _ => false
 | o => a6 o
theorem gT {o : Op} (h : eh o = true) : a6 o = true ∧ ∀ ρ, aA ρ o = [] := by
 cases o <;> first | exact ⟨h, fun _ => rfl⟩ | (cases h; done)
theorem jD {o : Op} (h : eh o = true) : fp o = true ∧ ∀ ρ, aA ρ o = [] := ⟨by unfold fp; rw [(gT h).1]; rfl, (gT h).2⟩
def dF (ops : Array Oper) (bs : List Nat) (i : Nat) : Bool := (List.range ops.size).all fun k => k == i || (match ops[k]? with
 | none => false
 | some o => eh o.op || ((bs.getD i 0).testBit k || (bs.getD k 0).testBit i))
def TDx (bs Ns : List Nat) (i : Nat) (M M' : Store) : Prop := M.n ≤ M'.n ∧ ∀ b ∈ tdiff M M', M.n ≤ b ∨ ((M.get b).isSome = true ∧ dw bs Ns i b = true)
def sK (ops : Array Oper) (bs : List Nat) (i j : Nat) : Bool := (List.range ops.size).all fun k => k == i || (match ops[k]? with
 | none => false
 | some o => eh o.op || (((bs.getD i 0).testBit k || (bs.getD k 0).testBit i) || !(bs.getD k 0).testBit j))
def jl (ops : Array Oper) (bs : List Nat) (i : Nat) : List Nat := (List.range i).filter fun j => (bs.getD i 0).testBit j && sK ops bs i j
def TDj (js Ns : List Nat) (M M' : Store) : Prop := M.n ≤ M'.n ∧ ∀ b ∈ tdiff M M', M.n ≤ b ∨ ((M.get b).isSome = true ∧ ∃ j ∈ js, Ns.getD j 0 ≤ b ∧ b < Ns.getD (j + 1) 0)
def dr (P : Program) (E : Ext) (ops : Array Oper) (bs : List Nat) : List Oper → Nat → List Nat → AAct → Store → (AAct → Store → Prop) → Prop
 | [], _, _, a, M, K => K a M
 | o :: r, i, Ns, a, M, K =>
  let run (a : AAct) : Prop := kop P E a.eval o.op M fun v M' =>
   bif a6 o.op then dr P E ops bs r (i + 1) (Ns ++ [M'.n]) (a.put o.dst v) M' K
   else bif dF ops bs i then (TDx bs Ns i M M' ∧ dr P E ops bs r (i + 1) (Ns ++ [M'.n]) (a.put o.dst v) M' K)
   else (TDj (jl ops bs i) Ns M M' ∧ dr P E ops bs r (i + 1) (Ns ++ [M'.n]) (a.put o.dst v) M' K)
  let skip (a : AAct) : Prop := dr P E ops bs r (i + 1) (Ns ++ [M.n]) (a.put o.dst undef) M K
  match o.guard with
  | none => run a
  | some (j, want) => match (ops[j]?).bind (·.dst) with
   | none => False
   | some d => BRG (tZ ops j) (a.get d)
       (bif want then run (a.put (some d) (.bool true)) else skip (a.put (some d) (.bool true)))
       (bif want then skip (a.put (some d) (.bool false)) else run (a.put (some d) (.bool false)))
       (skip a)
theorem gA {P : Program} {ρ : Operand → Value} {o : Op} {M M' : Store} {r : Sum Value (Bool × Nat × Array Value)} (hl : a6 o = true) (h : aop P ρ o M = some (r, M')) : (M.n ≤ M'.n ∧ tdiff M M' = []) ∧ ∃ v, r = .inl v := by
 obtain ⟨v, p, rfl, rfl, _⟩ := gp hl h
 refine ⟨?_, v, rfl⟩
 cases p <;> simp [tdiff, Store.pushO]
def StepOk (ops : Array Oper) (bs Ns : List Nat) (i : Nat) (o : Oper) (M M' : Store) : Prop :=
 bif a6 o.op then M.n ≤ M'.n ∧ tdiff M M' = [] else bif dF ops bs i then TDx bs Ns i M M' else TDj (jl ops bs i) Ns M M'
theorem gt {P : Program} {c : ap} {ops : Array Oper} {l : List Oper} {a : AAct} {M : Store} {L} (h : bB P c ops l a M = some L) : ∃ t, L = (a, M) :: t := by
 cases l with
 | nil => simp only [bB, Option.some.injEq] at h; exact ⟨[], h.symm⟩
 | cons o l =>
  rw [dV] at h
  obtain ⟨s, _, h2⟩ := Option.bind_eq_some_iff.1 h
  obtain ⟨L1, _, h4⟩ := Option.bind_eq_some_iff.1 h2
  injection h4 with h4
  exact ⟨L1, h4.symm⟩
theorem lD {ops : Array Oper} {o : Oper} {a : AAct} {j d : Nat} {want b : Bool} (hg : o.guard = some (j, want)) (hd : (ops[j]?).bind (·.dst) = some d) (ha : a.get d = .bool b) : Region.wanted o (AAct.yielded ops a) = (b == want) := by
 have hy : AAct.yielded ops a j = some b := by
  simp only [AAct.yielded, hd]
  have : a.t.get d = .bool b := ha
  rw [this]
 unfold Region.wanted; rw [hg]; simp only [hy]; cases b <;> cases want <;> rfl
theorem qm (M : Store) : tdiff M M = [] := by simp [tdiff]
theorem oR (ops : Array Oper) (bs Ns : List Nat) (i : Nat) (o : Oper) (M : Store) : StepOk ops bs Ns i o M M := by
 unfold StepOk TDx TDj
 rw [qm]
 cases a6 o.op
 ·cases dF ops bs i
  ·exact ⟨Nat.le_refl _, fun b hb => by cases hb⟩
  ·exact ⟨Nat.le_refl _, fun b hb => by cases hb⟩
 ·exact ⟨Nat.le_refl _, rfl⟩
theorem StepOk.n {ops : Array Oper} {bs Ns : List Nat} {i : Nat} {o : Oper} {M M' : Store} (h : StepOk ops bs Ns i o M M') : M.n ≤ M'.n := by
 unfold StepOk at h
 cases hl : a6 o.op
 ·rw [hl] at h
  cases hd : dF ops bs i
  ·rw [hd] at h; exact h.1
  ·rw [hd] at h; exact h.1
 ·rw [hl] at h; exact h.1
def pj (P : Program) (E : Ext) (ops : Array Oper) (bs : List Nat) (l : List Oper) (i : Nat) (Ns : List Nat) (a : AAct) (M : Store) (K : AAct → Store → Prop) : Prop :=
    ∃ k L a' M', bB P (aq P E k) ops l a M = some L ∧ L[l.length]? = some (a', M') ∧ K a' M' ∧
     ∀ (x : Nat) o s s', l[x]? = some o → L[x]? = some s → L[x + 1]? = some s' → StepOk ops bs (Ns ++ ((L.map (·.2.n)).drop 1).take x) (i + x) o s.2 s'.2
theorem j7 {P : Program} {E : Ext} {ops : Array Oper} {bs : List Nat} : ∀ (l : List Oper) (i : Nat) (Ns : List Nat) (a : AAct) (M : Store) (K : AAct → Store → Prop), dr P E ops bs l i Ns a M K →
    pj P E ops bs l i Ns a M K
 | [], i, Ns, a, M, K, h => ⟨0, [(a, M)], a, M, rfl, rfl, h, fun x o s s' h => by simp at h⟩
 | o :: l, i, Ns, a, M, K, h => by
  have fin : ∀ k a1 M1, aU P (aq P E k) ops o a M = some (a1, M1) → dr P E ops bs l (i + 1) (Ns ++ [M1.n]) a1 M1 K → StepOk ops bs Ns i o M M1 →
      pj P E ops bs (o :: l) i Ns a M K := by
   intro k a1 M1 h1 hk hst
   obtain ⟨k2, L, a2, M2, h3, h4, h5, h6⟩ := j7 l (i + 1) (Ns ++ [M1.n]) a1 M1 K hk
   obtain ⟨t, ht⟩ := gt h3
   refine ⟨max k k2, (a, M) :: L, a2, M2, ?_, by simpa using h4, h5, ?_⟩
   ·rw [dV, dq (bp P E (Nat.le_max_left k k2)) h1, Option.bind_some, gu (bp P E (Nat.le_max_right k k2)) _ h3]; rfl
   ·intro x o' s s' ho hs hs'
    cases x with
    | zero =>
     simp only [List.getElem?_cons_zero, Option.some.injEq] at ho hs
     subst ho; subst hs
     simp only [Nat.zero_add, List.getElem?_cons_succ, ht, List.getElem?_cons_zero, Option.some.injEq] at hs'
     subst hs'
     simpa using hst
    | succ x =>
     simp only [List.getElem?_cons_succ] at ho hs hs'
     have := h6 x o' s s' ho hs hs'
     have e : Ns ++ [M1.n] ++ ((L.map (·.2.n)).drop 1).take x = Ns ++ ((((a, M) :: L).map (·.2.n)).drop 1).take (x + 1) := by
      rw [ht]; simp
     rw [e] at this
     have e2 : i + 1 + x = i + (x + 1) := by omega
     rw [e2] at this
     exact this
  have hrun : Region.wanted o (AAct.yielded ops a) = true → (kop P E a.eval o.op M fun v M' =>
      bif a6 o.op then dr P E ops bs l (i + 1) (Ns ++ [M'.n]) (a.put o.dst v) M' K
      else bif dF ops bs i then (TDx bs Ns i M M' ∧ dr P E ops bs l (i + 1) (Ns ++ [M'.n]) (a.put o.dst v) M' K)
      else (TDj (jl ops bs i) Ns M M' ∧ dr P E ops bs l (i + 1) (Ns ++ [M'.n]) (a.put o.dst v) M' K)) → pj P E ops bs (o :: l) i Ns a M K := by
   intro hw h
   obtain ⟨k, v, M1, h1, h2⟩ := (jA h).step hw
   refine fin k _ M1 h1 ?_ ?_
   ·cases hl : a6 o.op with
    | true => rw [hl] at h2; exact h2
    | false =>
     rw [hl] at h2
     cases hd : dF ops bs i with
     | true => rw [hd] at h2; exact h2.2
     | false => rw [hd] at h2; exact h2.2
   ·unfold StepOk
    cases hl : a6 o.op with
    | true =>
     rw [aU, if_pos hw] at h1
     split at h1
     ·rename_i v' M' he
      injection h1 with h1; injection h1 with _ h1; subst h1
      exact (gA hl he).1
     ·rename_i g f args M' he
      obtain ⟨_, v', hv⟩ := gA hl he
      cases hv
     ·cases h1
    | false =>
     rw [hl] at h2
     cases hd : dF ops bs i with
     | true => rw [hd] at h2; exact h2.1
     | false => rw [hd] at h2; exact h2.1
  have hskip : Region.wanted o (AAct.yielded ops a) = false → dr P E ops bs l (i + 1) (Ns ++ [M.n]) (a.put o.dst undef) M K → pj P E ops bs (o :: l) i Ns a M K := by
   intro hw h
   exact fin 0 _ M (by rw [aU, if_neg (by rw [hw]; decide)]) h (oR _ _ _ _ _ _)
  simp only [dr] at h
  cases hg : o.guard with
  | none =>
   rw [hg] at h
   exact hrun (by unfold Region.wanted; rw [hg]) h
  | some jw =>
   obtain ⟨j, want⟩ := jw
   rw [hg] at h
   simp only at h
   split at h
   ·exact h.elim
   ·rename_i d hd
    rcases mh h with ⟨hb, h⟩ | ⟨hb, h⟩ | ⟨⟨u, hb⟩, h⟩
    ·rw [iJ hb] at h
     have hw := lD hg hd hb
     cases want with
     | true => exact hrun hw h
     | false => exact hskip hw h
    ·rw [iJ hb] at h
     have hw := lD hg hd hb
     cases want with
     | true => exact hskip hw h
     | false => exact hrun hw h
    ·refine hskip ?_ h
     have hy : AAct.yielded ops a j = none := by
      simp only [AAct.yielded, hd]
      have : a.t.get d = .tuple u := hb
      rw [this]
     unfold Region.wanted; rw [hg]; simp only [hy]; rfl
def unO (bs : List Nat) (i k : Nat) : Bool := !(k == i) && !((bs.getD i 0).testBit k || (bs.getD k 0).testBit i)
def uS (ops : Array Oper) : Op → Bool
 | .call c => match c.args.toList with
  | .tmp d :: _ => ops.toList.all fun o => match o.dst with
   | none => true
   | some e => !Nat.beq e d || (match o.op with
    | .load _ _ => true
    | .move _ => true
    | _ => false)
  | _ => false
 | _ => false
def um (ops : Array Oper) : Op → Bool
 | .store _ (.tmp d) _ => ops.toList.any fun o => match o.dst with
  | none => false
  | some e => Nat.beq e d && (match o.op with
   | .indexAddr _ (.tmp x) _ => ops.toList.any fun q => match q.dst with
    | none => false
    | some y => Nat.beq y x && (match q.op with
     | .load _ _ => true
     | _ => false)
   | _ => false)
 | _ => false
def eI (ops : Array Oper) (bs : List Nat) (i : Nat) : Bool := match ops[i]? with
 | none => false
 | some o => (nD o.op && uS ops o.op || um ops o.op) && (!dF ops bs i && ((List.range ops.size).all fun k => !unO bs i k || (match ops[k]? with
  | none => false
  | some q => eh q.op || fp q.op)))
def m7 (ops : Array Oper) (bs : List Nat) : Bool := ops.toList.all (fun o => match o.guard with
 | none => true
 | some _ => false) && (List.range ops.size).any (eI ops bs)
def Dj (X Y : List Nat) : Prop := ∀ b ∈ X, b ∉ Y
def uq (ops : Array Oper) (bs : List Nat) (i : Nat) : List Nat := (List.range i).filter fun k => unO bs i k && (match ops[k]? with
 | none => true
 | some q => !eh q.op)
def uf (ops : Array Oper) (bs : List Nat) (i : Nat) : List Nat := (List.range i).filter fun k => unO bs i k && eI ops bs k
def rdH (ops : Array Oper) (H : List (AAct × Store)) (k : Nat) : List Nat := match ops[k]?, H[k]? with
 | some o, some s => aA s.1.eval o.op
 | _, _ => []
def tdH (H : List (AAct × Store)) (k : Nat) : List Nat := match H[k]?, H[k + 1]? with
 | some s, some s' => tdiff s.2 s'.2
 | _, _ => []
def djQ (ops : Array Oper) (H : List (AAct × Store)) (Y : List Nat) : List Nat → Prop → Prop
 | [], p => p
 | k :: r, p => Dj Y (rdH ops H k) ∧ djQ ops H Y r p
def djF (H : List (AAct × Store)) (Y : List Nat) : List Nat → Prop → Prop
 | [], p => p
 | k :: r, p => Dj (tdH H k) Y ∧ djF H Y r p
theorem lW {ops : Array Oper} {H : List (AAct × Store)} {Y : List Nat} : ∀ {ks : List Nat} {p : Prop}, djQ ops H Y ks p → (∀ k ∈ ks, Dj Y (rdH ops H k)) ∧ p
 | [], _, h => ⟨(fun _ h => by cases h), h⟩
 | k :: r, p, h => ⟨List.forall_mem_cons.2 ⟨h.1, (lW h.2).1⟩, (lW h.2).2⟩
theorem lV {H : List (AAct × Store)} {Y : List Nat} : ∀ {ks : List Nat} {p : Prop}, djF H Y ks p → (∀ k ∈ ks, Dj (tdH H k) Y) ∧ p
 | [], _, h => ⟨(fun _ h => by cases h), h⟩
 | k :: r, p, h => ⟨List.forall_mem_cons.2 ⟨h.1, (lV h.2).1⟩, (lV h.2).2⟩
def eL (P : Program) (E : Ext) (ops : Array Oper) (bs : List Nat) : List Oper → Nat → List (AAct × Store) → AAct → Store → (AAct → Store → Prop) → Prop
 | [], _, _, a, M, K => K a M
 | o :: r, i, H, a, M, K => kop P E a.eval o.op M fun v M' =>
     bif eh o.op then eL P E ops bs r (i + 1) (H ++ [(a, M)]) (a.put o.dst v) M' K
     else djF (H ++ [(a, M)]) (aA a.eval o.op) (uf ops bs i)
      (bif a6 o.op then eL P E ops bs r (i + 1) (H ++ [(a, M)]) (a.put o.dst v) M' K
      else bif eI ops bs i then (TDx bs ((H ++ [(a, M)]).map (·.2.n)) i M M' ∧ djQ ops H (tdiff M M') (uq ops bs i) (eL P E ops bs r (i + 1) (H ++ [(a, M)]) (a.put o.dst v) M' K))
      else bif dF ops bs i then (TDx bs ((H ++ [(a, M)]).map (·.2.n)) i M M' ∧ eL P E ops bs r (i + 1) (H ++ [(a, M)]) (a.put o.dst v) M' K)
      else (TDj (jl ops bs i) ((H ++ [(a, M)]).map (·.2.n)) M M' ∧ eL P E ops bs r (i + 1) (H ++ [(a, M)]) (a.put o.dst v) M' K))
def si (ops : Array Oper) (bs : List Nat) (i : Nat) (H : List (AAct × Store)) (o : Oper) (a : AAct) (M M' : Store) : Prop :=
 (bif eI ops bs i then TDx bs ((H ++ [(a, M)]).map (·.2.n)) i M M' ∧ ∀ k ∈ uq ops bs i, Dj (tdiff M M') (rdH ops H k)
  else StepOk ops bs ((H ++ [(a, M)]).map (·.2.n)) i o M M') ∧ (eh o.op = false → ∀ k ∈ uf ops bs i, Dj (tdH (H ++ [(a, M)]) k) (aA a.eval o.op))
def tE (P : Program) (E : Ext) (ops : Array Oper) (bs : List Nat) (l : List Oper) (i : Nat) (H : List (AAct × Store)) (a : AAct) (M : Store) (K : AAct → Store → Prop) : Prop :=
    ∃ k L a' M', bB P (aq P E k) ops l a M = some L ∧ L[l.length]? = some (a', M') ∧ K a' M' ∧
     ∀ (x : Nat) o s s', l[x]? = some o → L[x]? = some s → L[x + 1]? = some s' → si ops bs (i + x) (H ++ L.take x) o s.1 s.2 s'.2
theorem nV {ops : Array Oper} {bs : List Nat} {i : Nat} {o : Oper} (ho : ops[i]? = some o) (h : a6 o.op = true) : eI ops bs i = false := by
 unfold eI
 rw [ho]
 have : nD o.op = false := by
  cases hh : o.op <;> rw [hh] at h <;> first | rfl | skip
  rename_i c
  obtain ⟨callee, args, ts⟩ := c
  cases callee with
  | builtin b => cases b <;> first | rfl | (cases h; done)
  | value f => rfl
  | invoke r m => rfl
 have h2 : um ops o.op = false := by
  cases hh : o.op <;> rw [hh] at h <;> first | rfl | (cases h; done)
 simp only [this, h2, Bool.false_and, Bool.or_false]
theorem j8 {P : Program} {E : Ext} {ops : Array Oper} {bs : List Nat} : ∀ (l : List Oper) (i : Nat) (H : List (AAct × Store)) (a : AAct) (M : Store) (K : AAct → Store → Prop),
    (∀ x o, l[x]? = some o → ops[i + x]? = some o ∧ o.guard = none) → eL P E ops bs l i H a M K → tE P E ops bs l i H a M K
 | [], i, H, a, M, K, _, h => ⟨0, [(a, M)], a, M, rfl, rfl, h, fun x o s s' h => by simp at h⟩
 | o :: l, i, H, a, M, K, hl, h => by
  obtain ⟨ho, hg⟩ := hl 0 o rfl
  rw [Nat.add_zero] at ho
  have hl' : ∀ x o', l[x]? = some o' → ops[i + 1 + x]? = some o' ∧ o'.guard = none := fun x o' hx => by
   have := hl (x + 1) o' (by simpa using hx)
   rwa [show i + (x + 1) = i + 1 + x by omega] at this
  have hw : Region.wanted o (AAct.yielded ops a) = true := by unfold Region.wanted; rw [hg]
  have fin : ∀ k a1 M1, aU P (aq P E k) ops o a M = some (a1, M1) → eL P E ops bs l (i + 1) (H ++ [(a, M)]) a1 M1 K → si ops bs i H o a M M1 →
      tE P E ops bs (o :: l) i H a M K := by
   intro k a1 M1 h1 hk hst
   obtain ⟨k2, L, a2, M2, h3, h4, h5, h6⟩ := j8 l (i + 1) (H ++ [(a, M)]) a1 M1 K hl' hk
   obtain ⟨t, ht⟩ := gt h3
   refine ⟨max k k2, (a, M) :: L, a2, M2, ?_, by simpa using h4, h5, ?_⟩
   ·rw [dV, dq (bp P E (Nat.le_max_left k k2)) h1, Option.bind_some, gu (bp P E (Nat.le_max_right k k2)) _ h3]; rfl
   ·intro x o' s s' ho hs hs'
    cases x with
    | zero =>
     simp only [List.getElem?_cons_zero, Option.some.injEq] at ho hs
     subst ho; subst hs
     simp only [Nat.zero_add, List.getElem?_cons_succ, ht, List.getElem?_cons_zero, Option.some.injEq] at hs'
     subst hs'
     simpa using hst
    | succ x =>
     simp only [List.getElem?_cons_succ] at ho hs hs'
     have := h6 x o' s s' ho hs hs'
     rw [List.append_assoc, show i + 1 + x = i + (x + 1) by omega] at this
     exact this
  simp only [eL] at h
  obtain ⟨k, v, M1, h1, h2⟩ := (jA h).step hw
  have hlt : ∀ (hlo : a6 o.op = true), StepOk ops bs ((H ++ [(a, M)]).map (·.2.n)) i o M M1 := fun hlo => by
   unfold StepOk
   rw [hlo]
   rw [aU, if_pos hw] at h1
   split at h1
   ·rename_i v' M' he
    injection h1 with h1; injection h1 with _ h1; subst h1
    exact (gA hlo he).1
   ·rename_i g f args M' he
    obtain ⟨_, v', hv⟩ := gA hlo he
    cases hv
   ·cases h1
  cases hp : eh o.op with
  | true =>
   rw [hp] at h2
   have hlo := (gT hp).1
   exact fin k _ M1 h1 h2 ⟨by rw [nV ho hlo]; exact hlt hlo, fun e => by cases hp.symm.trans e⟩
  | false =>
   rw [hp] at h2
   obtain ⟨hf, h2⟩ := lV h2
   cases hlo : a6 o.op with
   | true =>
    rw [hlo] at h2
    exact fin k _ M1 h1 h2 ⟨by rw [nV ho hlo]; exact hlt hlo, fun _ => hf⟩
   | false =>
    rw [hlo] at h2
    cases hfl : eI ops bs i with
    | true =>
     rw [hfl] at h2
     obtain ⟨h3, h4⟩ := h2
     obtain ⟨h5, h6⟩ := lW h4
     exact fin k _ M1 h1 h6 ⟨by rw [hfl]; exact ⟨h3, h5⟩, fun _ => hf⟩
    | false =>
     rw [hfl] at h2
     cases hd : dF ops bs i with
     | true =>
      rw [hd] at h2
      exact fin k _ M1 h1 h2.2 ⟨by rw [hfl]; unfold StepOk; rw [hlo, hd]; exact h2.1, fun _ => hf⟩
     | false =>
      rw [hd] at h2
      exact fin k _ M1 h1 h2.2 ⟨by rw [hfl]; unfold StepOk; rw [hlo, hd]; exact h2.1, fun _ => hf⟩
theorem dX {l : List Nat} {n j : Nat} (h : j < n) : (l.take n).getD j 0 = l.getD j 0 := by
 simp [List.getD_eq_getElem?_getD, List.getElem?_take, h]
theorem mu {bs l : List Nat} {i b : Nat} : dw bs (l.take (i + 1)) i b = dw bs l i b := by
 unfold dw
 rw [dX (by omega)]
 congr 1
 rw [Bool.eq_iff_iff, List.any_eq_true, List.any_eq_true]
 constructor <;> rintro ⟨j, hj, h⟩ <;> refine ⟨j, hj, ?_⟩ <;> rw [List.mem_range] at hj
 ·rw [dX (by omega), dX (by omega)] at h; exact h
 ·rw [dX (by omega), dX (by omega)]; exact h
theorem j1 {P : Program} {c : ap} {ops : Array Oper} : ∀ (l : List Oper) {a M L}, bB P c ops l a M = some L → L.length = l.length + 1 := by
 intro l
 induction l with
 | nil => intro a M L h; simp only [bB, Option.some.injEq] at h; subst h; rfl
 | cons o l ih =>
  intro a M L h
  rw [dV] at h
  obtain ⟨s, _, h2⟩ := Option.bind_eq_some_iff.1 h
  obtain ⟨L1, h3, h4⟩ := Option.bind_eq_some_iff.1 h2
  injection h4 with h4; subst h4
  rw [List.length_cons, ih h3, List.length_cons]
def StepG (ops : Array Oper) (bs : List Nat) (L : List (AAct × Store)) (i : Nat) (o : Oper) (M M' : Store) : Prop :=
 StepOk ops bs ((L.map (·.2.n)).take (i + 1)) i o M M' ∨ (TDx bs ((L.map (·.2.n)).take (i + 1)) i M M' ∧ ∀ q o', ops[q]? = some o' → q = i ∨ eh o'.op = true ∨ ((bs.getD i 0).testBit q || (bs.getD q 0).testBit i) = true ∨
  (fp o'.op = true ∧ ∀ s, L[q]? = some s → ∀ b ∈ tdiff M M', b ∉ aA s.1.eval o'.op))
theorem StepG.n {ops : Array Oper} {bs : List Nat} {L : List (AAct × Store)} {i : Nat} {o : Oper} {M M' : Store} (h : StepG ops bs L i o M M') : M.n ≤ M'.n := by
 rcases h with h | h
 ·exact StepOk.n h
 ·exact h.1.1
theorem oo {P : Program} {c : ap} {ops : Array Oper} {a : AAct} {M : Store} {L : List (AAct × Store)} (h1 : bB P c ops ops.toList a M = some L)
    (h4 : ∀ i o s s', ops.toList[i]? = some o → L[i]? = some s → L[i + 1]? = some s' → StepG ops (bW ops.toList []) L i o s.2 s'.2) : kx ops L = true := by
 have hL := j1 _ h1
 obtain ⟨t, ht⟩ := gt h1
 unfold kx
 rw [Bool.or_eq_true]
 refine .inr ?_
 simp only [List.all_eq_true, List.mem_range]
 intro i hi
 have hi1 : i < L.length := by rw [hL]; simp; omega
 have hi2 : i + 1 < L.length := by rw [hL]; simp; omega
 rw [List.getElem?_eq_getElem hi1, List.getElem?_eq_getElem hi2]
 simp only [List.all_eq_true]
 intro b hb
 have ho : ops.toList[i]? = some ops[i] := by simp [hi]
 have hs := h4 i ops[i] _ _ ho (List.getElem?_eq_getElem hi1) (List.getElem?_eq_getElem hi2)
 rw [Bool.or_eq_true]
 -- the sizes grow
 have hmono : ∀ (n m : Nat), m + n < L.length → (L.map (·.2.n)).getD m 0 ≤ (L.map (·.2.n)).getD (m + n) 0 := by
  intro n
  induction n with
  | zero => intro m _; exact Nat.le_refl _
  | succ n ih =>
   intro m hm
   refine Nat.le_trans (ih m (by omega)) ?_
   have h1 : m + n < L.length := by omega
   have h2 : m + n + 1 < L.length := by omega
   have hlt : m + n < ops.size := by rw [hL] at h2; simpa using h2
   have hst := (h4 (m + n) ops[m + n] _ _ (by simp [hlt]) (List.getElem?_eq_getElem h1) (List.getElem?_eq_getElem h2)).n
   simp only [List.getD_eq_getElem?_getD, List.getElem?_map, ← Nat.add_assoc, List.getElem?_eq_getElem h1, List.getElem?_eq_getElem h2, Option.map_some, Option.getD_some]
   exact hst
 rcases hs with hs | ⟨hx, hq⟩
 ·unfold StepOk at hs
  cases hl : a6 ops[i].op with
  | true => rw [hl] at hs; simp only [cond_true] at hs; rw [hs.2] at hb; cases hb
  | false =>
   rw [hl] at hs
   cases hd : dF ops (bW ops.toList []) i with
   | false =>
    rw [hd] at hs
    rcases hs.2 b hb with h5 | ⟨h5, j, hj, h6, h7⟩
    ·exact .inl (decide_eq_true h5)
    ·refine .inr ?_
     unfold jl at hj
     rw [List.mem_filter, List.mem_range, Bool.and_eq_true] at hj
     obtain ⟨hji, hbit, hst⟩ := hj
     rw [dX (by omega)] at h6 h7
     simp only [Bool.and_eq_true, List.all_eq_true, List.mem_range, Bool.or_eq_true, Bool.not_eq_true']
     refine ⟨h5, ?_, fun q hq => ?_⟩
     ·unfold dw
      rw [Bool.or_eq_true, List.any_eq_true]
      exact .inr ⟨j, List.mem_range.2 hji, by rw [hbit, decide_eq_true h6, decide_eq_true h7]; rfl⟩
     ·unfold sK at hst
      have h8 := List.all_eq_true.1 hst q (List.mem_range.2 hq)
      simp only [Bool.or_eq_true, Array.getElem?_eq_getElem hq, Bool.not_eq_true'] at h8
      rcases h8 with h8 | h8 | h8 | h8
      ·exact .inl h8
      ·refine .inr (.inl ?_)
       unfold rdB
       have hq1 : q < L.length := by rw [hL]; simp; omega
       rw [Array.getElem?_eq_getElem hq, List.getElem?_eq_getElem hq1]
       obtain ⟨h9, h10⟩ := jD h8
       simp [h9, h10]
      ·exact .inr (.inr h8)
      ·refine .inr (.inl ?_)
       unfold rdB
       have hq1 : q < L.length := by rw [hL]; simp; omega
       rw [Array.getElem?_eq_getElem hq, List.getElem?_eq_getElem hq1]
       have hacc : dw (bW ops.toList []) (L.map (·.2.n)) q b = false := by
        rw [Bool.eq_false_iff]
        intro ha
        unfold dw at ha
        rw [Bool.or_eq_true, List.any_eq_true] at ha
        rcases ha with ha | ⟨j', hj', ha⟩
        ·have h0 := hmono j 0 (by rw [hL]; simp; omega)
         have := of_decide_eq_true ha
         rw [Nat.zero_add] at h0
         omega
        ·rw [List.mem_range] at hj'
         simp only [Bool.and_eq_true, decide_eq_true_eq] at ha
         obtain ⟨a1, a2, a3⟩ := ha
         have hjj : j' = j := by
          rcases Nat.lt_trichotomy j' j with hlt | heq | hgt
          ·have := hmono (j - (j' + 1)) (j' + 1) (by rw [hL]; simp; omega)
           rw [show j' + 1 + (j - (j' + 1)) = j by omega] at this
           omega
          ·exact heq
          ·have := hmono (j' - (j + 1)) (j + 1) (by rw [hL]; simp; omega)
           rw [show j + 1 + (j' - (j + 1)) = j' by omega] at this
           omega
         subst hjj
         rw [h8] at a1; cases a1
       simp [hacc]
   | true =>
    rw [hd] at hs
    rcases hs.2 b hb with h5 | ⟨h5, h6⟩
    ·exact .inl (decide_eq_true h5)
    ·refine .inr ?_
     rw [mu] at h6
     simp only [Bool.and_eq_true, List.all_eq_true, List.mem_range, Bool.or_eq_true, Bool.not_eq_true']
     refine ⟨h5, h6, fun q hq => ?_⟩
     unfold dF at hd
     have h7 := List.all_eq_true.1 hd q (List.mem_range.2 hq)
     simp only [Bool.or_eq_true, Array.getElem?_eq_getElem hq] at h7
     rcases h7 with h7 | h7 | h7
     ·exact .inl h7
     ·refine .inr (.inl ?_)
      unfold rdB
      have hq1 : q < L.length := by rw [hL]; simp; omega
      rw [Array.getElem?_eq_getElem hq, List.getElem?_eq_getElem hq1]
      obtain ⟨h8, h9⟩ := jD h7
      simp [h8, h9]
     ·exact .inr (.inr h7)
 ·rcases hx.2 b hb with h5 | ⟨h5, h6⟩
  ·exact .inl (decide_eq_true h5)
  ·refine .inr ?_
   rw [mu] at h6
   simp only [Bool.and_eq_true, List.all_eq_true, List.mem_range, Bool.or_eq_true, Bool.not_eq_true']
   refine ⟨h5, h6, fun q hqq => ?_⟩
   have hq1 : q < L.length := by rw [hL]; simp; omega
   rcases hq q ops[q] (Array.getElem?_eq_getElem hqq) with h7 | h7 | h7 | ⟨h7, h8⟩
   ·exact .inl (by rw [h7]; exact beq_self_eq_true i)
   ·refine .inr (.inl ?_)
    unfold rdB
    rw [Array.getElem?_eq_getElem hqq, List.getElem?_eq_getElem hq1]
    obtain ⟨h9, h10⟩ := jD h7
    simp [h9, h10]
   ·exact .inr (.inr (by simpa using h7))
   ·refine .inr (.inl ?_)
    unfold rdB
    rw [Array.getElem?_eq_getElem hqq, List.getElem?_eq_getElem hq1]
    have := h8 _ (List.getElem?_eq_getElem hq1) b hb
    simp [h7, this]
theorem pS {P : Program} {E : Ext} {ops : Array Oper} {a : AAct} {M : Store} {K : AAct → Store → Prop}
    (h : dr P E ops (bW ops.toList []) ops.toList 0 [M.n] a M K) : ∃ k a' M', cY P (aq P E k) ops a M = some (a', M') ∧ K a' M' := by
 obtain ⟨k, L, a', M', h1, h2, h3, h4⟩ := j7 ops.toList 0 [M.n] a M K h
 refine ⟨k, a', M', ?_, h3⟩
 obtain ⟨t, ht⟩ := gt h1
 have hcf : kx ops L = true := oo h1 fun i o s s' ho hs hs' => by
  have := h4 i o s s' ho hs hs'
  have e : [M.n] ++ ((L.map (·.2.n)).drop 1).take i = (L.map (·.2.n)).take (i + 1) := by rw [ht]; simp
  rw [e, Nat.zero_add] at this
  exact .inl this
 unfold cY
 rw [h1, Option.bind_some, if_pos hcf]
 simpa using h2
theorem mO {α : Type} {L : List α} {i : Nat} {s : α} (h : L[i]? = some s) : L.take i ++ [s] = L.take (i + 1) := by
 rw [List.take_add_one, h]; rfl
theorem oM {P : Program} {E : Ext} {ops : Array Oper} {a : AAct} {M : Store} {K : AAct → Store → Prop} (hf : m7 ops (bW ops.toList []) = true)
    (h : eL P E ops (bW ops.toList []) ops.toList 0 [] a M K) : ∃ k a' M', cY P (aq P E k) ops a M = some (a', M') ∧ K a' M' := by
 unfold m7 at hf
 rw [Bool.and_eq_true] at hf
 obtain ⟨k, L, a', M', h1, h2, h3, h4⟩ := j8 ops.toList 0 [] a M K (fun x o hx => ⟨by rw [Nat.zero_add]; simpa using hx, by
  have := List.all_eq_true.1 hf.1 o (List.mem_of_getElem? hx)
  cases hg : o.guard with
  | none => rfl
  | some p => rw [hg] at this; cases this⟩) h
 refine ⟨k, a', M', ?_, h3⟩
 have hL := j1 _ h1
 have hcf : kx ops L = true := oo h1 fun i o s s' ho hs hs' => by
  obtain ⟨h5, h6⟩ := h4 i o s s' ho hs hs'
  rw [Nat.zero_add] at h5 h6
  rw [List.nil_append, mO hs] at h5 h6
  rw [List.map_take] at h5
  cases hfl : eI ops (bW ops.toList []) i with
  | false => rw [hfl] at h5; exact .inl h5
  | true =>
   rw [hfl] at h5
   obtain ⟨h7, h8⟩ := h5
   refine .inr ⟨h7, fun q o' hq => ?_⟩
   have hqs : q < ops.size := lt_of_get hq
   unfold eI at hfl
   rw [show ops[i]? = some o by simpa using ho] at hfl
   simp only [Bool.and_eq_true] at hfl
   have h9 := List.all_eq_true.1 hfl.2.2 q (List.mem_range.2 hqs)
   rw [hq] at h9
   simp only [Bool.or_eq_true, Bool.not_eq_true'] at h9
   cases hu : unO (bW ops.toList []) i q with
   | false =>
    unfold unO at hu
    rcases Bool.and_eq_false_iff.1 hu with h | h
    ·exact .inl (by simpa using h)
    ·exact .inr (.inr (.inl (by rw [Bool.not_eq_false'] at h; exact h)))
   | true =>
    cases hp : eh o'.op with
    | true => exact .inr (.inl rfl)
    | false =>
     have hb : fp o'.op = true := by
      rcases h9 with h9 | h9 | h9
      ·rw [hu] at h9; cases h9
      ·rw [hp] at h9; cases h9
      ·exact h9
     refine .inr (.inr (.inr ⟨hb, fun sq hsq b hb => ?_⟩))
     rcases Nat.lt_trichotomy q i with hlt | heq | hgt
     ·have := h8 q (by unfold uq; rw [List.mem_filter, List.mem_range]; exact ⟨hlt, by rw [hu, hq]; simp [hp]⟩) b hb
      unfold rdH at this
      rw [hq, List.getElem?_take, if_pos hlt, hsq] at this
      exact this
     ·subst heq; unfold unO at hu; simp at hu
     ·have hq1 : q + 1 < L.length := by rw [hL]; simp; omega
      obtain ⟨_, h10⟩ := h4 q o' sq _ (by simpa using hq) hsq (List.getElem?_eq_getElem hq1)
      rw [Nat.zero_add, List.nil_append, mO hsq] at h10
      have hu2 : unO (bW ops.toList []) q i = true := by
       unfold unO at hu ⊢
       rw [Bool.or_comm, Bool.beq_comm]
       exact hu
      have := h10 hp i (by
       unfold uf; rw [List.mem_filter, List.mem_range]; refine ⟨hgt, ?_⟩
       rw [hu2]; unfold eI
       rw [show ops[i]? = some o by simpa using ho]
       simp only [Bool.true_and, Bool.and_eq_true]
       exact hfl)
      unfold tdH at this
      rw [List.getElem?_take, if_pos (by omega), hs, List.getElem?_take, if_pos (by omega), hs'] at this
      exact this b hb
 unfold cY
 rw [h1, Option.bind_some, if_pos hcf]
 simpa using h2
end Go.Ab

set_option linter.unusedVariables false
set_option linter.unusedSimpArgs false
namespace Go.Ab
abbrev bU := cK → AAct → Store → Prop
def CW (P : Program) (E : Ext) (rd : Option Nat) (c : Code) (a : AAct) (M : Store) (K : bU) : Prop :=
 ∃ k e a' M', ah P (aq P E k) k rd c a M = some (e, a', M') ∧ K e a' M'
section
variable {P : Program} {E : Ext} {rd : Option Nat}
theorem CW.mono {c : Code} {a : AAct} {M : Store} {K K' : bU} (h : CW P E rd c a M K) (hk : ∀ e a M, K e a M → K' e a M) : CW P E rd c a M K' := by
 obtain ⟨k, e, a', M', h1, h2⟩ := h
 exact ⟨k, e, a', M', h1, hk _ _ _ h2⟩
theorem CW.seq {x y : Code} {a : AAct} {M : Store} {K : bU} (h : CW P E rd x a M fun e a M => bif Nat.beq e 0 then CW P E rd y a M K else K e a M) : CW P E rd (.seq x y) a M K := by
 obtain ⟨k, e, a', M', h1, h2⟩ := h
 cases e with
 | zero =>
  obtain ⟨k2, e2, a2, M2, h3, h4⟩ := h2
  refine ⟨max k k2, e2, a2, M2, ?_, h4⟩
  rw [ah, aL (bp P E (Nat.le_max_left k k2)) (Nat.le_max_left k k2) _ h1]
  exact aL (bp P E (Nat.le_max_right k k2)) (Nat.le_max_right k k2) _ h3
 | succ e => exact ⟨k, e + 1, a', M', by rw [ah, h1]; rfl, h2⟩
theorem CW.seq_inv {x y : Code} {a : AAct} {M : Store} {K : bU} (h : CW P E rd (.seq x y) a M K) : CW P E rd x a M fun e a M => bif Nat.beq e 0 then CW P E rd y a M K else K e a M := by
 obtain ⟨k, e, a', M', h1, h2⟩ := h
 rw [ah] at h1
 cases hx : ah P (aq P E k) k rd x a M with
 | none => rw [hx] at h1; cases h1
 | some q =>
  rw [hx] at h1
  obtain ⟨e1, a1, M1⟩ := q
  refine ⟨k, e1, a1, M1, hx, ?_⟩
  cases e1 with
  | zero => exact ⟨k, e, a', M', h1, h2⟩
  | succ e1 =>
   simp only [Option.some.injEq, Prod.mk.injEq] at h1
   obtain ⟨rfl, rfl, rfl⟩ := h1
   exact h2
theorem CW.block {id : Nat} {x : Code} {a : AAct} {M : Store} {K : bU} (h : CW P E rd x a M fun e a M => K (bif Nat.beq e (id + 2) then 0 else e) a M) : CW P E rd (.block id x) a M K := by
 obtain ⟨k, e, a', M', h1, h2⟩ := h
 refine ⟨k, _, a', M', by rw [ah, h1], ?_⟩
 cases he : Nat.beq e (id + 2) with
 | true => rw [he] at h2; rw [if_pos (Nat.eq_of_beq_eq_true he)]; exact h2
 | false => rw [he] at h2; rw [if_neg (Nat.ne_of_beq_eq_false he)]; exact h2
theorem CW.block_inv {id : Nat} {x : Code} {a : AAct} {M : Store} {K : bU} (h : CW P E rd (.block id x) a M K) : CW P E rd x a M fun e a M => K (bif Nat.beq e (id + 2) then 0 else e) a M := by
 obtain ⟨k, e, a', M', h1, h2⟩ := h
 rw [ah] at h1
 cases hx : ah P (aq P E k) k rd x a M with
 | none => rw [hx] at h1; cases h1
 | some q =>
  rw [hx] at h1
  obtain ⟨e1, a1, M1⟩ := q
  simp only [Option.some.injEq, Prod.mk.injEq] at h1
  obtain ⟨rfl, rfl, rfl⟩ := h1
  refine ⟨k, e1, a1, M1, hx, ?_⟩
  cases he : Nat.beq e1 (id + 2) with
  | true => rw [if_pos (Nat.eq_of_beq_eq_true he)] at h2; simp only [he]; exact h2
  | false => rw [if_neg (Nat.ne_of_beq_eq_false he)] at h2; simp only [he]; exact h2
theorem CW.cond {c : Operand} {x y : Code} {a : AAct} {M : Store} {K : bU} (h : BR (a.eval c) (CW P E rd x a M K) (CW P E rd y a M K)) : CW P E rd (.cond c x y) a M K := by
 unfold BR at h
 split at h
 ·rename_i hc
  obtain ⟨k, e, a', M', h1, h2⟩ := h
  exact ⟨k, e, a', M', by rw [ah, hc]; exact h1, h2⟩
 ·rename_i hc
  obtain ⟨k, e, a', M', h1, h2⟩ := h
  exact ⟨k, e, a', M', by rw [ah, hc]; exact h1, h2⟩
 ·exact h.elim
theorem CW.cond_inv {c : Operand} {x y : Code} {a : AAct} {M : Store} {K : bU} (h : CW P E rd (.cond c x y) a M K) : BR (a.eval c) (CW P E rd x a M K) (CW P E rd y a M K) := by
 obtain ⟨k, e, a', M', h1, h2⟩ := h
 rw [ah] at h1
 split at h1
 ·rename_i t ht
  rw [ht]
  cases t with
  | true => exact ⟨k, e, a', M', h1, h2⟩
  | false => exact ⟨k, e, a', M', h1, h2⟩
 ·cases h1
theorem CW.loop {x : Code} {a : AAct} {M : Store} {K : bU} (h : CW P E rd x a M fun e a M => bif Nat.beq e 0 then CW P E rd (.loop x) a M K else K e a M) : CW P E rd (.loop x) a M K := by
 obtain ⟨k, e, a', M', h1, h2⟩ := h
 cases e with
 | zero =>
  obtain ⟨k2, e2, a2, M2, h3, h4⟩ := h2
  refine ⟨max k k2 + 1, e2, a2, M2, ?_, h4⟩
  rw [ah] at h3 ⊢
  have hk : k ≤ max k k2 + 1 := by omega
  have hk2 : k2 ≤ max k k2 := by omega
  rw [cO, aL (bp P E hk) hk _ h1]
  exact ir (fun a M r => aL (bp P E (by omega)) (by omega) x) hk2 h3
 | succ e =>
  refine ⟨k + 1, e + 1, a', M', ?_, h2⟩
  rw [ah, cO, aL (bp P E (Nat.le_succ k)) (Nat.le_succ k) _ h1]; rfl
def kwp (P : Program) (E : Ext) (rd : Option Nat) : Code → AAct → Store → bU → Prop
 | .skip, a, M, K => K 0 a M
 | .region _ ops draw, a, M, K => bif draw then (bif m7 ops (bW ops.toList []) then eL P E ops (bW ops.toList []) ops.toList 0 [] a M (K 0) else dr P E ops (bW ops.toList []) ops.toList 0 [M.n] a M (K 0))
     else cD P E ops (jy ops.toList) a M (K 0)
 | .seq x y, a, M, K => kwp P E rd x a M fun e a M => bif Nat.beq e 0 then kwp P E rd y a M K else K e a M
 | .cond c x y, a, M, K => BR (a.eval c) (kwp P E rd x a M K) (kwp P E rd y a M K)
 | .block id x, a, M, K => kwp P E rd x a M fun e a M => K (bif Nat.beq e (id + 2) then 0 else e) a M
 | .loop x, a, M, K => CW P E rd (.loop x) a M K
 | .exit id, a, M, K => K (id + 2) a M
 | .ret, a, M, K => K 1 a M
 | c, a, M, K => CW P E rd c a M K
theorem dY : ∀ (c : Code) {a : AAct} {M : Store} {K : bU}, kwp P E rd c a M K → CW P E rd c a M K
 | .skip, a, M, K, h => ⟨0, 0, a, M, rfl, h⟩
 | .region _ ops draw, a, M, K, h => by
  simp only [kwp] at h
  cases draw with
  | true =>
   simp only [cond_true] at h
   cases hf : m7 ops (bW ops.toList []) with
   | true =>
    rw [hf] at h
    obtain ⟨k, a', M', h1, h2⟩ := oM hf h
    exact ⟨k, 0, a', M', by rw [ah, if_pos rfl, h1]; rfl, h2⟩
   | false =>
    rw [hf] at h
    obtain ⟨k, a', M', h1, h2⟩ := pS h
    exact ⟨k, 0, a', M', by rw [ah, if_pos rfl, h1]; rfl, h2⟩
  | false =>
   simp only [cond_false] at h
   obtain ⟨hf, hg⟩ := mH ops.toList
   obtain ⟨k, a', M', h1, h2⟩ := fq _ _ _ _ hg h
   rw [hf] at h1
   exact ⟨k, 0, a', M', by rw [ah, if_neg (by decide), h1]; rfl, h2⟩
 | .seq x y, a, M, K, h => by
  simp only [kwp] at h
  refine CW.seq ((dY x h).mono fun e a M h => ?_)
  cases he : Nat.beq e 0 with
  | true => rw [he] at h; exact dY y h
  | false => rw [he] at h; exact h
 | .cond c x y, a, M, K, h => by
  simp only [kwp] at h
  refine CW.cond ?_
  unfold BR at h ⊢
  split at h
  ·exact dY x h
  ·exact dY y h
  ·exact h.elim
 | .block id x, a, M, K, h => by
  simp only [kwp] at h
  exact CW.block (dY x h)
 | .loop x, a, M, K, h => h
 | .exit id, a, M, K, h => ⟨0, id + 2, a, M, rfl, h⟩
 | .ret, a, M, K, h => ⟨0, 1, a, M, rfl, h⟩
 | .rangeFunc _ _ _ _, a, M, K, h => h
 | .scope _, a, M, K, h => h
 | .label _, a, M, K, h => h
 | .goto _, a, M, K, h => h
 | .refuse _, a, M, K, h => h
inductive CT where
 | no
 | here (m : Nat)
 | two (l r : CT)
def dy : Code → CT → Code
 | _, .here m => .exit m
 | .seq x y, .two l r => .seq (dy x l) (dy y r)
 | .cond c x y, .two l r => .cond c (dy x l) (dy y r)
 | .block id x, .two l _ => .block id (dy x l)
 | c, _ => c
def plain (B : Nat) : Code → Bool
 | .seq x y => plain B x && plain B y
 | .cond _ x y => plain B x && plain B y
 | .block id x => Nat.blt id B && plain B x
 | .exit id => Nat.blt id B
 | .skip => true
 | .region _ _ _ => true
 | .ret => true
 | _ => false
def bD (B : Nat) : Code → CT → Bool
 | _, .here m => Nat.ble B m
 | .seq x y, .two l r => bD B x l && bD B y r
 | .cond _ x y, .two l r => bD B x l && bD B y r
 | .block id x, .two l _ => Nat.blt id B && bD B x l
 | c, _ => plain B c
def az (P : Program) (E : Ext) (rd : Option Nat) : Code → CT → bU → List (Nat × (AAct → Store → Prop))
 | c, .here m, K => [(m, fun a M => CW P E rd c a M K)]
 | .seq x y, .two l r, K => az P E rd x l (fun e a M => bif Nat.beq e 0 then CW P E rd y a M K else K e a M) ++ az P E rd y r K
 | .cond _ x y, .two l r, K => az P E rd x l K ++ az P E rd y r K
 | .block id x, .two l _, K => az P E rd x l fun e a M => K (bif Nat.beq e (id + 2) then 0 else e) a M
 | _, _, _ => []
theorem dt {B : Nat} {call : ap} {k : Nat} : ∀ (c : Code) {a a' : AAct} {M M' : Store} {e : Nat}, plain B c = true → ah P call k rd c a M = some (e, a', M') → e < B + 2
 | .skip, _, _, _, _, _, _, h => by simp only [ah, Option.some.injEq, Prod.mk.injEq] at h; obtain ⟨rfl, _⟩ := h; exact Nat.succ_pos _
 | .region _ ops draw, a, a', M, M', e, _, h => by
  simp only [ah] at h
  obtain ⟨r, _, h3⟩ := Option.bind_eq_some_iff.1 h
  simp only [Option.some.injEq, Prod.mk.injEq] at h3
  obtain ⟨rfl, _⟩ := h3
  exact Nat.succ_pos _
 | .seq x y, a, a', M, M', e, hp, h => by
  simp only [plain, Bool.and_eq_true] at hp
  simp only [ah] at h
  cases hx : ah P call k rd x a M with
  | none => rw [hx] at h; cases h
  | some q =>
   rw [hx] at h
   obtain ⟨e1, a1, M1⟩ := q
   cases e1 with
   | zero => exact dt y hp.2 h
   | succ e1 =>
    simp only [Option.some.injEq, Prod.mk.injEq] at h
    obtain ⟨rfl, _, _⟩ := h
    exact dt x hp.1 hx
 | .cond c x y, a, a', M, M', e, hp, h => by
  simp only [plain, Bool.and_eq_true] at hp
  simp only [ah] at h
  split at h
  ·split at h
   ·exact dt x hp.1 h
   ·exact dt y hp.2 h
  ·cases h
 | .block id x, a, a', M, M', e, hp, h => by
  simp only [plain, Bool.and_eq_true] at hp
  simp only [ah] at h
  cases hx : ah P call k rd x a M with
  | none => rw [hx] at h; cases h
  | some q =>
   rw [hx] at h
   obtain ⟨e1, a1, M1⟩ := q
   have := dt x hp.2 hx
   simp only [Option.some.injEq, Prod.mk.injEq] at h
   obtain ⟨rfl, _, _⟩ := h
   split
   ·exact Nat.succ_pos _
   ·exact this
 | .exit id, a, a', M, M', e, hp, h => by
  simp only [ah, Option.some.injEq, Prod.mk.injEq] at h
  simp only [plain, Nat.blt_eq] at hp
  obtain ⟨rfl, _⟩ := h
  exact Nat.add_lt_add_right hp 2
 | .ret, a, a', M, M', e, hp, h => by simp only [ah, Option.some.injEq, Prod.mk.injEq] at h; obtain ⟨rfl, _⟩ := h; exact Nat.succ_lt_succ (Nat.succ_pos _)
 | .loop _, _, _, _, _, _, hp, _ => by cases hp
 | .rangeFunc _ _ _ _, _, _, _, _, _, hp, _ => by cases hp
 | .scope _, _, _, _, _, _, hp, _ => by cases hp
 | .label _, _, _, _, _, _, hp, _ => by cases hp
 | .goto _, _, _, _, _, _, hp, _ => by cases hp
 | .refuse _, _, _, _, _, _, hp, _ => by cases hp
theorem dC {B N : Nat} {c : Code} (hp : plain B c = true) {a : AAct} {M : Store} {K Kd : bU} (ha : a.t.n = N)
    (hx : ∀ e a' M', e < B + 2 → a'.t.n = N → Kd e a' M' → K e a' M') (h : CW P E rd c a M Kd) : CW P E rd c a M K := by
 obtain ⟨k, e, a', M', h1, h2⟩ := h
 exact ⟨k, e, a', M', h1, hx _ _ _ (dt c hp h1) ((dS c h1).1.trans ha) h2⟩
theorem qM {B N : Nat} : ∀ (c : Code) (ct : CT) {a : AAct} {M : Store} {K Kd : bU}, bD B c ct = true → a.t.n = N →
    (∀ m p, (m, p) ∈ az P E rd c ct K → ∀ a' M', a'.t.n = N → Kd (m + 2) a' M' → p a' M') →
    (∀ e a' M', e < B + 2 → a'.t.n = N → Kd e a' M' → K e a' M') → CW P E rd (dy c ct) a M Kd → CW P E rd c a M K := by
 intro c
 induction c with
 | seq x y ihx ihy =>
  intro ct a M K Kd hc ha hl hx h
  cases ct with
  | no => exact dC (by simpa [bD] using hc) ha hx h
  | here m =>
   obtain ⟨k, e, a', M', h1, h2⟩ := h
   simp only [dy, ah, Option.some.injEq, Prod.mk.injEq] at h1
   obtain ⟨rfl, rfl, rfl⟩ := h1
   exact hl m _ (by simp only [az]; exact List.mem_singleton.2 rfl) _ _ ha h2
  | two l r =>
   simp only [bD, Bool.and_eq_true] at hc
   simp only [dy] at h
   refine CW.seq (ihx l hc.1 ha (Kd := fun e a M => bif Nat.beq e 0 then CW P E rd (dy y r) a M Kd else Kd e a M) ?_ ?_ (CW.seq_inv h))
   ·intro m p hm a' M' hn hk
    exact hl m p (by simp only [az]; exact List.mem_append_left _ hm) a' M' hn hk
   ·intro e a' M' he hn hk
    cases h0 : Nat.beq e 0 with
    | true =>
     rw [h0] at hk
     exact ihy r hc.2 hn (fun m p hm => hl m p (by simp only [az]; exact List.mem_append_right _ hm)) hx hk
    | false =>
     rw [h0] at hk
     exact hx e a' M' he hn hk
 | cond v x y ihx ihy =>
  intro ct a M K Kd hc ha hl hx h
  cases ct with
  | no => exact dC (by simpa [bD] using hc) ha hx h
  | here m =>
   obtain ⟨k, e, a', M', h1, h2⟩ := h
   simp only [dy, ah, Option.some.injEq, Prod.mk.injEq] at h1
   obtain ⟨rfl, rfl, rfl⟩ := h1
   exact hl m _ (by simp only [az]; exact List.mem_singleton.2 rfl) _ _ ha h2
  | two l r =>
   simp only [bD, Bool.and_eq_true] at hc
   simp only [dy] at h
   refine CW.cond ?_
   have h := CW.cond_inv h
   unfold BR at h ⊢
   split at h
   ·exact ihx l hc.1 ha (fun m p hm => hl m p (by simp only [az]; exact List.mem_append_left _ hm)) hx h
   ·exact ihy r hc.2 ha (fun m p hm => hl m p (by simp only [az]; exact List.mem_append_right _ hm)) hx h
   ·exact h.elim
 | block id x ihx =>
  intro ct a M K Kd hc ha hl hx h
  cases ct with
  | no => exact dC (by simpa [bD] using hc) ha hx h
  | here m =>
   obtain ⟨k, e, a', M', h1, h2⟩ := h
   simp only [dy, ah, Option.some.injEq, Prod.mk.injEq] at h1
   obtain ⟨rfl, rfl, rfl⟩ := h1
   exact hl m _ (by simp only [az]; exact List.mem_singleton.2 rfl) _ _ ha h2
  | two l r =>
   simp only [bD, Bool.and_eq_true, Nat.blt_eq] at hc
   simp only [dy] at h
   refine CW.block (ihx l hc.2 ha (Kd := fun e a M => Kd (bif Nat.beq e (id + 2) then 0 else e) a M) ?_ ?_ (CW.block_inv h))
   ·intro m p hm a' M' hn hk
    have hm' : (m, p) ∈ az P E rd (.block id x) (.two l r) K := by simp only [az]; exact hm
    have hB : B ≤ m := by
     have : ∀ (c : Code) (ct : CT) (K : bU) (m : Nat) p, bD B c ct = true → (m, p) ∈ az P E rd c ct K → B ≤ m := by
      intro c
      induction c with
      | seq x y ihx ihy =>
       intro ct K m p hc hm
       cases ct with
       | no => simp [az] at hm
       | here q => simp only [az, List.mem_singleton, Prod.mk.injEq] at hm; obtain ⟨rfl, _⟩ := hm; exact Nat.le_of_ble_eq_true hc
       | two l r =>
        simp only [bD, Bool.and_eq_true] at hc
        simp only [az, List.mem_append] at hm
        rcases hm with hm | hm
        ·exact ihx _ _ _ _ hc.1 hm
        ·exact ihy _ _ _ _ hc.2 hm
      | cond v x y ihx ihy =>
       intro ct K m p hc hm
       cases ct with
       | no => simp [az] at hm
       | here q => simp only [az, List.mem_singleton, Prod.mk.injEq] at hm; obtain ⟨rfl, _⟩ := hm; exact Nat.le_of_ble_eq_true hc
       | two l r =>
        simp only [bD, Bool.and_eq_true] at hc
        simp only [az, List.mem_append] at hm
        rcases hm with hm | hm
        ·exact ihx _ _ _ _ hc.1 hm
        ·exact ihy _ _ _ _ hc.2 hm
      | block id x ihx =>
       intro ct K m p hc hm
       cases ct with
       | no => simp [az] at hm
       | here q => simp only [az, List.mem_singleton, Prod.mk.injEq] at hm; obtain ⟨rfl, _⟩ := hm; exact Nat.le_of_ble_eq_true hc
       | two l r =>
        simp only [bD, Bool.and_eq_true] at hc
        simp only [az] at hm
        exact ihx _ _ _ _ hc.2 hm
      | _ =>
       intro ct K m p hc hm
       cases ct with
       | no => simp [az] at hm
       | here q => simp only [az, List.mem_singleton, Prod.mk.injEq] at hm; obtain ⟨rfl, _⟩ := hm; exact Nat.le_of_ble_eq_true hc
       | two l r => simp [az] at hm
     exact this _ _ _ _ _ hc.2 hm
    refine hl m p hm' a' M' hn ?_
    have hne : Nat.beq (m + 2) (id + 2) = false := by
     cases hb : Nat.beq (m + 2) (id + 2) with
     | false => rfl
     | true => have := Nat.eq_of_beq_eq_true hb; omega
    rw [hne] at hk; exact hk
   ·intro e a' M' he hn hk
    refine hx _ a' M' ?_ hn hk
    cases Nat.beq e (id + 2) <;> simp <;> omega
 | _ =>
  intro ct a M K Kd hc ha hl hx h
  cases ct with
  | no => exact dC (by simpa [bD] using hc) ha hx h
  | here m =>
   obtain ⟨k, e, a', M', h1, h2⟩ := h
   simp only [dy, ah, Option.some.injEq, Prod.mk.injEq] at h1
   obtain ⟨rfl, rfl, rfl⟩ := h1
   exact hl m _ (by simp only [az]; exact List.mem_singleton.2 rfl) _ _ ha h2
  | two l r => exact dC (by simpa [bD] using hc) ha hx h
structure Ent where
 e : Nat
 d : AAct → Store → Prop
 t : AAct → Store → Prop
def nS : List Ent → bU
 | [], _, _, _ => False
 | x :: r, e, a, M => bif Nat.beq x.e e then x.d a M else nS r e a M
def tgt : List Ent → Nat → AAct → Store → Prop
 | [], _ => fun _ _ => False
 | x :: r, e => bif Nat.beq x.e e then x.t else tgt r e
def pi (N : Nat) : List Ent → Prop
 | [] => True
 | x :: r => (∀ a M, a.t.n = N → x.d a M → x.t a M) ∧ pi N r
theorem kA {N : Nat} : ∀ (L : List Ent), pi N L → ∀ e a M, a.t.n = N → nS L e a M → tgt L e a M ∧ e ∈ L.map (·.e)
 | [], _, _, _, _, _, h => h.elim
 | x :: r, hL, e, a, M, hn, h => by
  simp only [nS] at h
  simp only [tgt]
  cases he : Nat.beq x.e e with
  | true => rw [he] at h; exact ⟨hL.1 a M hn h, by simp [Nat.eq_of_beq_eq_true he]⟩
  | false =>
   rw [he] at h
   have := kA r hL.2 e a M hn h
   exact ⟨this.1, List.mem_cons_of_mem _ this.2⟩
theorem uU {B N : Nat} {c : Code} {ct : CT} {K : bU} {a : AAct} {M : Store} (L : List Ent) (ms es : List Nat) (ha : a.t.n = N) (hc : bD B c ct = true)
    (hl : az P E rd c ct K = ms.map fun m => (m, tgt L (m + 2)))
    (hx : es.map K = es.map (tgt L)) (hes : ((L.map (·.e)).all fun e => Nat.ble (B + 2) e || es.elem e) = true)
    (hL : pi N L) (h : kwp P E rd (dy c ct) a M (nS L)) : CW P E rd c a M K := by
 refine qM (B := B) (N := N) c ct hc ha ?_ ?_ (dY _ h)
 ·intro m p hm a' M' hn hk
  rw [hl] at hm
  obtain ⟨m', _, hm'⟩ := List.mem_map.1 hm
  injection hm' with e1 e2
  subst e1; subst e2
  exact (kA L hL _ _ _ hn hk).1
 ·intro e a' M' he hn hk
  obtain ⟨h1, h2⟩ := kA L hL _ _ _ hn hk
  have h3 := List.all_eq_true.1 hes e h2
  rw [Bool.or_eq_true] at h3
  rcases h3 with h3 | h3
  ·have := Nat.le_of_ble_eq_true h3; omega
  ·have h4 : e ∈ es := by simpa using h3
   have : ∀ (l : List Nat), l.map K = l.map (tgt L) → e ∈ l → K e = tgt L e := by
    intro l
    induction l with
    | nil => intro _ h; cases h
    | cons x l ih =>
     intro h1 h2
     simp only [List.map_cons, List.cons.injEq] at h1
     rcases List.mem_cons.1 h2 with rfl | h2
     ·exact h1.1
     ·exact ih h1.2 h2
   rw [this es hx h4]; exact h1
def sub : Code → List Nat → Code
 | c, [] => c
 | .seq x _, 0 :: p => sub x p
 | .seq _ y, _ :: p => sub y p
 | .cond _ x _, 0 :: p => sub x p
 | .cond _ _ y, _ :: p => sub y p
 | .block _ x, _ :: p => sub x p
 | .loop x, _ :: p => sub x p
 | .rangeFunc _ _ x _, 0 :: p => sub x p
 | .rangeFunc _ _ _ y, _ :: p => sub y p
 | c, _ => c
def eJ (P : Program) (E : Ext) (rd : Option Nat) : Code → List Nat → bU → bU
 | _, [], K => K
 | .seq x y, 0 :: p, K => eJ P E rd x p fun e a M => bif Nat.beq e 0 then CW P E rd y a M K else K e a M
 | .seq _ y, _ :: p, K => eJ P E rd y p K
 | .cond _ x _, 0 :: p, K => eJ P E rd x p K
 | .cond _ _ y, _ :: p, K => eJ P E rd y p K
 | .block id x, _ :: p, K => eJ P E rd x p fun e a M => K (bif Nat.beq e (id + 2) then 0 else e) a M
 | .loop x, _ :: p, K => eJ P E rd x p fun e a M => bif Nat.beq e 0 then CW P E rd (.loop x) a M K else K e a M
 | _, _, K => K
def bI (fn : Func) : Code := fn.body.getD .skip
def n9 (P : Program) : List ResultVar → AAct → Store → (List Value → Prop) → Prop
 | [], _, _, k => k []
 | .tmp t :: r, a, M, k => n9 P r a M fun q => k (a.get t :: q)
 | .cell t ty :: r, a, M, k => match P.underlying ty, aB P ty with
  | some d, some s => OP (ld s (gO d) (a.get t) M) fun v => n9 P r a M fun q => k (v :: q)
  | _, _ => False
theorem rv {P : Program} {t : TypeId} {d : TypeDesc} {s : Nat} (hd : P.underlying t = some d) (hs : aB P t = some s) {x v : Value} {M : Store} (h : ld s (gO d) x M = some v) : ee P t x M = some v := by
 unfold ld at h
 split at h
 ·simp only [ee, hd, hs, Option.bind_some, kJ]; exact h
 ·cases h
def NTs (vs : List Value) : Prop := vs.all f7 = true
def l6 (P : Program) (rs : List ResultVar) (Q : Value → Store → Prop) : bU := fun e a M =>
 bif Nat.ble e 1 then OP (fA a.defers M) fun M => n9 P rs a M fun vs => NTs vs ∧ Q (jn vs) M else False
theorem iI : ∀ (rs : List ResultVar) {a : AAct} {M : Store} {k : List Value → Prop}, n9 P rs a M k → ∃ vs, gP P rs a M = some vs ∧ k vs
 | [], a, M, k, h => ⟨[], rfl, h⟩
 | .tmp t :: r, a, M, k, h => by
  obtain ⟨vs, h1, h2⟩ := iI r h
  exact ⟨_, by rw [gP, h1]; rfl, h2⟩
 | .cell t ty :: r, a, M, k, h => by
  simp only [n9] at h
  split at h
  ·rename_i d s hd hs
   obtain ⟨v, h1, h2⟩ := eN.1 h
   obtain ⟨vs, h3, h4⟩ := iI r h2
   exact ⟨_, by rw [gP, rv hd hs h1, Option.bind_some, h3]; rfl, h4⟩
  ·exact h.elim
def At (P : Program) (E : Ext) (rd : Option Nat) (fn : Func) (p : List Nat) (a : AAct) (M : Store) (Q : Value → Store → Prop) : Prop :=
 CW P E rd (sub (bI fn) p) a M (eJ P E rd (bI fn) p (l6 P fn.results.toList Q))
theorem tt {f : FuncId} {fn : Func} {c : Code} (hf : P.funcs[f]? = some fn) (hE : E f = none) (hb : fn.body = some c) (hn : (fn.name == "runtime.NumGoroutine") = false) {args : Array Value} {M : Store} {Q : Value → Store → Prop}
    (h : At P E none fn [] (AAct.enter fn.ntmps args.toList) M Q) : Runs P E f args M Q := by
 obtain ⟨k, e, a', M', h1, h2⟩ := h
 simp only [sub, bI, hb, Option.getD_some] at h1
 simp only [eJ, l6] at h2
 cases he : Nat.ble e 1 with
 | false => rw [he] at h2; exact h2.elim
 | true =>
  rw [he] at h2
  obtain ⟨M1, h3, h4⟩ := eN.1 h2
  obtain ⟨vs, h5, h6, h7⟩ := iI _ h4
  refine ⟨k + 1, jn vs, M1, ?_, h7⟩
  rw [aq]
  simp only [hE, hf, hb]
  rw [if_neg (by rw [hn]; decide), h1]
  simp only
  rw [if_pos (Nat.le_of_ble_eq_true he), h3, Option.bind_some, h5, Option.bind_some, if_pos (show vs.all f7 = true from h6)]
def dfr (ds : List Deferred) (p : Prop) : Prop := match ds with
 | [] => p
 | _ => False
theorem ta {ds : List Deferred} {p : Prop} (h : dfr ds p) : ds = [] ∧ p := by
 cases ds with
 | nil => exact ⟨rfl, h⟩
 | cons x l => exact h.elim
end
end Go.Ab

set_option linter.unusedVariables false
set_option linter.unusedSimpArgs false
namespace Go.Ab
section
variable {P : Program} {E : Ext}
def rfc (P : Program) (E : Ext) (g : Value) (l : Nat) (M : Store) (k : Value → Store → Prop) : Prop := match g with
 | .func (.func f) first captured => Runs P E f (first.toList ++ (.func (.yield l) #[] #[] :: captured.toList)).toArray M k
 | _ => False
theorem CW.rf {g : Operand} {ps : Array Tmp} {x y : Code} {a : AAct} {M : Store} {K : bU}
    (h : rfc P E (a.eval g) (M.n + 1) ((M.push (some (.inr (.inr none)))).push (some (.inr (.inr (some ⟨.ready, 0, a.t, ps, x, y⟩))))) fun _ M' =>
     OP (eM M' (M.n + 1)) fun r => r.st ≠ .busy ∧ K r.pe { a with defers := { target := .collected M.n, args := #[] } :: a.defers } (f8 M' (M.n + 1) { r with st := .exhausted })) :
    CW P E none (.rangeFunc g ps x y) a M K := by
 unfold rfc at h
 split at h
 ·rename_i f first captured hg
  obtain ⟨k, v, M1, h1, h2⟩ := h
  obtain ⟨r, h3, h4, h5⟩ := eN.1 h2
  refine ⟨k, r.pe, _, _, ?_, h5⟩
  rw [ah, hg]
  simp only [fa, Option.bind_some]
  have e : first ++ #[.func (.yield (M.n + 1)) #[] #[]] ++ captured = (first.toList ++ (.func (.yield (M.n + 1)) #[] #[] :: captured.toList)).toArray := by
   rw [← Array.toList_inj]; simp
  have e2 : ((M.push (some (.inr (.inr none)))).push (some (.inr (.inr (some ⟨.ready, 0, a.t, ps, x, y⟩))))).n - 1 = M.n + 1 := by simp
  rw [e2, e, h1, Option.bind_some, h3, Option.bind_some]
  have hb : (r.st == LoopState.busy) = false := by
   cases hs : r.st <;> first | rfl | exact absurd hs h4
  rw [hb]; rfl
 ·exact h.elim
end
end Go.Ab
