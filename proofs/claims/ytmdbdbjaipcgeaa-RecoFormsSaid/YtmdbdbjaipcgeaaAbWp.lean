/- What is to be shown of code, as a proposition made along the code: no fuel, no temporaries, no program's tables in it. -/
import Derived.Test.YtmdbdbjaipcgeaaAbFuel
set_option linter.unusedVariables false
set_option linter.unusedSimpArgs false
namespace Go.Ab

def OP {α : Type} (x : Option α) (k : α → Prop) : Prop := match x with
  | some v => k v
  | none => False
theorem OP_some {α : Type} (v : α) (k : α → Prop) : OP (some v) k = k v := rfl
def OP2 (x : Option (Value × Store)) (k : Value → Store → Prop) : Prop := OP x fun r => k r.1 r.2
def LT (v : Value) (M : Store) (k : Value → Store → Prop) : Prop := k v M
theorem OP2_some (v : Value) (M : Store) (k : Value → Store → Prop) : OP2 (some (v, M)) k = k v M := rfl
theorem OP_iff {α : Type} {x : Option α} {k : α → Prop} : OP x k ↔ ∃ v, x = some v ∧ k v := by cases x <;> simp [OP]
def BR (v : Value) (A B : Prop) : Prop := match v with
  | .bool true => A
  | .bool false => B
  | _ => False
/-- The same, of what may not have been made. -/
def BR3 (v : Value) (A B C : Prop) : Prop := match v with
  | .bool true => A
  | .bool false => B
  | .tuple _ => C
  | _ => False
/-- Whether an operation is itself made on a condition. -/
def hasG (ops : Array Oper) (j : Nat) : Bool := match ops[j]? with
  | some o => match o.guard with
    | none => false
    | some _ => true
  | none => false
def BRG (g : Bool) (v : Value) (A B C : Prop) : Prop := match g with
  | true => BR3 v A B C
  | false => BR v A B
theorem BRG_cases {g : Bool} {v : Value} {A B C : Prop} (h : BRG g v A B C) : (v = .bool true ∧ A) ∨ (v = .bool false ∧ B) ∨ ((∃ l, v = .tuple l) ∧ C) := by
  cases g
  · simp only [BRG, BR] at h
    split at h
    · exact .inl ⟨rfl, h⟩
    · exact .inr (.inl ⟨rfl, h⟩)
    · exact h.elim
  · simp only [BRG, BR3] at h
    split at h
    · exact .inl ⟨rfl, h⟩
    · exact .inr (.inl ⟨rfl, h⟩)
    · exact .inr (.inr ⟨⟨_, rfl⟩, h⟩)
    · exact h.elim
theorem BR_true (A B : Prop) : BR (.bool true) A B = A := rfl
theorem BR_false (A B : Prop) : BR (.bool false) A B = B := rfl

/-! ## the small operations, without the program's tables -/
def valB (agg : Bool) (cs : List Value) : Option Value := bif agg then some (.agg cs.toArray) else match cs with
  | [v] => some v
  | _ => none
theorem valOf_eq (d : TypeDesc) (cs : List Value) : valOf d cs = valB (aggT d) cs := by
  unfold valOf valB; cases aggT d <;> rfl
def ld (s : Nat) (agg : Bool) (a : Value) (M : Store) : Option Value := match a with
  | .pointer (some ⟨b, o, none⟩) => (rowOf M b o s).bind fun cs => valB agg cs
  | _ => none
def st (s : Nat) (a v : Value) (M : Store) : Option Store := match a with
  | .pointer (some ⟨b, o, none⟩) =>
    match M.get b with
    | some (.inl (c, e, true)) =>
      if s = v.cells.size ∧ o + v.cells.size ≤ c.length ∧ v.cells.all (·.oneCell') = true then
        some (M.set b (some (.inl (splice c o v.cells.toList, e, true)))) else none
    | _ => none
  | _ => none
def boxv (v : Value) : Option (List Value) := if v.cells.all (·.oneCell') = true then some v.cells.toList else none
def bldS (z : Array Value) (q : List (Nat × Nat)) (parts : List (Nat × Value)) : Option Value :=
  if parts.all (fun p => p.2.cells.all (·.oneCell')) = true then (Instr.fill (q[·]?) z parts).map Value.agg else none
def bldA (z : Array Value) (s : Nat) (parts : List (Nat × Value)) : Option Value :=
  if parts.all (fun p => p.2.cells.all (·.oneCell')) = true then (Instr.fill (fun i => some (i * s, s)) z parts).map Value.agg else none
def bldL (z : Value) (s n : Nat) (parts : List (Nat × Value)) : Option (List Value) :=
  if parts.all (fun p => p.2.cells.all (·.oneCell')) = true then (Instr.fill (fun i => some (i * s, s)) (zerosOf z (n * s)) parts).map Array.toList else none
def nilc (x : Value) : Option Value := match x with
  | .pointer (some a) => some (.pointer (some a))
  | _ => none
def binI (op : BinOp) (x y : Value) : Option Value := match x, y with
  | .int k a, .int j b =>
    match op with
    | .shl => if b < 0 then none else some (.int k (k.wrap (a * 2 ^ (min b.toNat k.bits))))
    | .shr => if b < 0 then none else some (.int k (a.fdiv (2 ^ (min b.toNat k.bits))))
    | _ => if k ≠ j then none else
      match op with
      | .add => some (.int k (k.wrap (a + b)))
      | .sub => some (.int k (k.wrap (a - b)))
      | .mul => some (.int k (k.wrap (a * b)))
      | .quo => if b = 0 then none else some (.int k (k.wrap (a.tdiv b)))
      | .rem => if b = 0 then none else some (.int k (a.tmod b))
      | .and => some (.int k (k.wrap (BitVec.ofInt k.bits a &&& BitVec.ofInt k.bits b).toNat))
      | .or => some (.int k (k.wrap (BitVec.ofInt k.bits a ||| BitVec.ofInt k.bits b).toNat))
      | .xor => some (.int k (k.wrap (BitVec.ofInt k.bits a ^^^ BitVec.ofInt k.bits b).toNat))
      | .eql => some (.bool (a == b))
      | .neq => some (.bool (a != b))
      | .lss => some (.bool (a < b))
      | .leq => some (.bool (a ≤ b))
      | .gtr => some (.bool (a > b))
      | .geq => some (.bool (a ≥ b))
      | _ => none
  | _, _ => none
def binS (op : BinOp) (x y : Value) : Option Value := match x, y with
  | .string a, .string b =>
    match op with
    | .add => if a.size + b.size ≤ 2 ^ 40 then some (.string (a ++ b)) else none
    | .eql => some (.bool (a.data.toList == b.data.toList))
    | .neq => some (.bool (!(a.data.toList == b.data.toList)))
    | .lss => some (.bool (Op.bytesLess a.data.toList b.data.toList))
    | .leq => some (.bool (Op.bytesLess a.data.toList b.data.toList || a.data.toList == b.data.toList))
    | .gtr => some (.bool (!(Op.bytesLess a.data.toList b.data.toList || a.data.toList == b.data.toList)))
    | .geq => some (.bool (!Op.bytesLess a.data.toList b.data.toList))
    | _ => none
  | _, _ => none
theorem binI_eq {P : Program} {cst : Bool} {op : BinOp} {t : TypeId} {x y v : Value} (h : binI op x y = some v) : abin P cst op t x y = some v := by
  unfold binI at h
  split at h
  · exact h
  · cases h
theorem binS_eq {P : Program} {cst : Bool} {op : BinOp} {t : TypeId} {x y v : Value} (h : binS op x y = some v) : abin P cst op t x y = some v := by
  unfold binS at h
  split at h
  · exact h
  · cases h
def cvI (k : IntKind) (x : Value) : Option Value := match x with
  | .int _ n => some (.int k (k.wrap n))
  | _ => none
def cvSB (e : TypeId) (x : Value) (M : Store) : Option (Value × Store) := match x with
  | .string s => if 2 ^ 40 < s.size then none else
    some (.slice (some ⟨M.n, 0, none⟩) s.size (s.size + 1), M.push (some (.inl (s.data.toList.map fun b => .int .u8 b.toNat, e, true))))
  | _ => none
def cvBS (x : Value) (M : Store) : Option Value := match x with
  | .slice none _ _ => some (.string .empty)
  | .slice (some ⟨b, o, none⟩) n _ => if n = 0 then some (.string .empty) else
    (rowOf M b o n).bind fun cs => (bytesOfCells cs).bind fun l => some (.string ⟨l.toArray⟩)
  | _ => none
def cvId (x : Value) (M : Store) : Option (Value × Store) := match x with
  | .slice (some ⟨b, o, none⟩) n c => match M.get b with
    | some (.inl (cs, t, true)) => if 0 < n then some (.slice (some ⟨b, o, none⟩) n c, M.set b (some (.inl (cs, t, true)))) else none
    | _ => none
  | _ => none
def mkI (t : TypeId) (v : Value) : Option Value := if basicV v = true then some (.iface t v) else none
def mkF (fn : Fn) (l c : List Value) : Option Value := if notYield fn && (l.all basicV && c.all basicV) then some (.func fn l.toArray c.toArray) else none
def mkS (z : Value) (s by_ : Nat) (e : TypeId) (l c : Value) (M : Store) : Option (Value × Store) := match l, c with
  | .int .i64 l, .int .i64 c =>
    if 0 ≤ l ∧ l ≤ c ∧ c ≤ 2 ^ 40 ∧ by_ * c ≤ 2 ^ 40 then
      some (.slice (some ⟨M.n, 0, none⟩) l.toNat (if l = c then l.toNat else l.toNat + 1),
        M.push (some (.inl (zerosL z (l.toNat * s), e, true))))
    else none
  | _, _ => none
def slS (x : Value) (lo hi : Option Value) : Option Value := match x with
  | .string s => (abound hi s.size s.size).bind fun h => (abound lo h 0).bind fun l => some (.string (s.extract l h))
  | _ => none
def slV (size : Nat) (e : TypeId) (x : Value) (lo hi : Option Value) (M : Store) : Option Value := match x with
  | .slice a len cap =>
    (abound hi len len).bind fun h => (abound lo h 0).bind fun l =>
      if l = h || elemOk M a e then
        some (.slice (a.map (·.add (l * size))) (h - l) (if cap = len ∧ h = len then h - l else if l = h ∧ ¬ (l = 0 ∧ (0 < len ∨ cap = len + 1) ∧ elemOk M a e = true) then h - l + 2 else h - l + 1))
      else none
  | _ => none
def slM (size : Nat) (e : TypeId) (x : Value) (lo : Option Value) (hi mx : Value) (M : Store) : Option Value := match x with
  | .slice a len _ =>
    (abound (some mx) len len).bind fun m =>
      (abound (some hi) m m).bind fun h => (abound lo h 0).bind fun l =>
        if l = h || elemOk M a e then
          some (.slice (a.map (·.add (l * size))) (h - l) (if h = m then h - l else h - l + 2))
        else none
  | _ => none
def fad (off : Nat) (x : Value) : Option Value := match x with
  | .pointer (some ⟨b, o, none⟩) => some (.pointer (some ⟨b, o + off, none⟩))
  | _ => none
def prt (off s : Nat) (agg : Bool) (x : Value) : Option Value := match x with
  | .agg cs => if off + s ≤ cs.size then valB agg (cs.extract off (off + s)).toList else none
  | _ => none
def ixA (s : Nat) (x i : Value) : Option Value := match x, i with
  | .slice (some a) len _, .int _ i => if 0 ≤ i ∧ i < (len : Int) ∧ a.spot = none then some (.pointer (some ⟨a.block, a.off + i.toNat * s, none⟩)) else none
  | _, _ => none
def ixP (s len : Nat) (x i : Value) : Option Value := match x, i with
  | .pointer (some a), .int _ i => if 0 ≤ i ∧ i < (len : Int) ∧ a.spot = none then some (.pointer (some ⟨a.block, a.off + i.toNat * s, none⟩)) else none
  | _, _ => none
def ixS (x i : Value) : Option Value := match x, i with
  | .string s, .int _ i => if 0 ≤ i then (s[i.toNat]?).bind fun b => some (.int .u8 b.toNat) else none
  | _, _ => none
def lku (kd : TypeDesc) (z : Value) (x k : Value) (ok : Bool) (M : Store) : Option Value :=
  if !keyV kd k then none else
    let es := match x with
      | .map none => some []
      | .map (some r) => match M.get r with
        | some (.inr (.inl es)) => some es
        | _ => none
      | _ => none
    es.bind fun es => if !(es.all fun e => keyV kd e.1) then none else
    let r := match afind k es 0 with
      | some (_, v) => (v, true)
      | none => (z, false)
    some (if ok then .tuple #[r.1, .bool r.2] else r.1)
def mup (kd : TypeDesc) (x k v : Value) (M : Store) : Option Store := match x with
  | .map (some r) => if !keyV kd k then none else
    if !(v.cells.all (·.oneCell')) then none else
    match M.get r with
    | some (.inr (.inl es)) => if !(es.all fun e => keyV kd e.1) then none else
      match afind k es 0 with
      | some (i, _) => some (M.set r (some (.inr (.inl (es.set i (k, v))))))
      | none => some (M.set r (some (.inr (.inl (es ++ [(k, v)])))))
    | _ => none
  | _ => none
def tup (v : Value) (i : Nat) : Option Value := match v with
  | .tuple vs => vs[i]?
  | _ => none
def newV (s : Nat) (x : Value) (M : Store) : Option (Nat × List Value) := match x with
  | .slice none n _ => if n = 0 then some (0, []) else none
  | .slice (some ⟨b, o, none⟩) n _ => if n = 0 then some (0, []) else (rowOf M b o (n * s)).bind fun cs => some (n, cs)
  | _ => none
def newT (x : Value) : Option (Nat × List Value) := match x with
  | .string str => some (str.size, str.data.toList.map fun b => .int .u8 b.toNat)
  | _ => none
def appG (s : Nat) (e : TypeId) (v : Value) (my : Nat × List Value) (M : Store) : Option (Value × Store) := match v with
  | .slice base n cap =>
    if my.1 = 0 then some (.slice base n cap, M) else
    if n + my.1 ≤ 2 ^ 28 then agrow base n cap s e my.1 my.2 M else none
  | _ => none
def appV (s : Nat) (e : TypeId) (v x : Value) (M : Store) : Option (Value × Store) := (newV s x M).bind fun my => appG s e v my M
def appT (s : Nat) (e : TypeId) (v x : Value) (M : Store) : Option (Value × Store) := (newT x).bind fun my => appG s e v my M
def newZ (z : Value) (s : Nat) (x : Value) : Option (Nat × List Value) := match x with
  | .int .i64 n => if 0 ≤ n ∧ n ≤ 2 ^ 28 then some (n.toNat, zerosL z (n.toNat * s)) else none
  | _ => none
def appZ (z : Value) (s : Nat) (e : TypeId) (v x : Value) (M : Store) : Option (Value × Store) := (newZ z s x).bind fun my => appG s e v my M
def capV (x : Value) : Option Value := match x with
  | .slice _ n c => if c = n then some (goInt n) else none
  | _ => none
def lenV (x : Value) : Option Value := match x with
  | .slice _ n _ => some (goInt n)
  | _ => none
def lenS (x : Value) : Option Value := match x with
  | .string s => some (goInt s.size)
  | _ => none
def lenM (x : Value) (M : Store) : Option Value := match x with
  | .map none => some (goInt 0)
  | .map (some r) => match M.get r with
    | some (.inr (.inl es)) => some (goInt es.length)
    | _ => none
  | _ => none

/-! ## calls -/
def Runs (P : Program) (E : Ext) (f : FuncId) (args : Array Value) (M : Store) (Q : Value → Store → Prop) : Prop :=
  ∃ k v M', acall P E k true f args M = some (v, M') ∧ Q v M'
def RunsY (P : Program) (E : Ext) (l : Nat) (args : Array Value) (M : Store) (Q : Value → Store → Prop) : Prop :=
  ∃ k v M', acall P E k false l args M = some (v, M') ∧ Q v M'
def kcall (P : Program) (E : Ext) (f : Value) (args : List Value) (M : Store) (K : Value → Store → Prop) : Prop := match f with
  | .func (.func g) first captured => Runs P E g (first.toList ++ (args ++ captured.toList)).toArray M K
  | .func (.yield l) first _ => RunsY P E l (first.toList ++ args).toArray M K
  | _ => False
theorem Runs.mono {P : Program} {E : Ext} {f : FuncId} {args : Array Value} {M : Store} {Q R : Value → Store → Prop} (h : Runs P E f args M Q) (k : ∀ v M', Q v M' → R v M') : Runs P E f args M R := by
  obtain ⟨n, v, M', h1, h2⟩ := h
  exact ⟨n, v, M', h1, k _ _ h2⟩
theorem RunsY.mono {P : Program} {E : Ext} {f : Nat} {args : Array Value} {M : Store} {Q R : Value → Store → Prop} (h : RunsY P E f args M Q) (k : ∀ v M', Q v M' → R v M') : RunsY P E f args M R := by
  obtain ⟨n, v, M', h1, h2⟩ := h
  exact ⟨n, v, M', h1, k _ _ h2⟩

/-! ## one operation -/
def kbuiltin (P : Program) (b : Builtin) (ts : List TypeId) (args : List Value) (M : Store) (K : Value → Store → Prop) : Prop :=
  match b, ts, args with
  | .append, t :: xt :: _, [v, x] =>
    match P.underlying t, P.underlying xt with
    | some (.slice e), some (.slice _) =>
      match szOf P e, byOf P e, zrOf P e with
      | some s, some y, some z => bif (decide (y ≤ 2 ^ 12) && (decide (0 < s) && decide (z.cells.size = s))) then OP (appV s e v x M) fun r => K r.1 r.2 else False
      | _, _, _ => False
    | some (.slice e), some .string =>
      match szOf P e, byOf P e, zrOf P e with
      | some s, some y, some z => bif (decide (y ≤ 2 ^ 12) && (decide (s = 1) && decide (z.cells.size = s))) then OP (appT s e v x M) fun r => K r.1 r.2 else False
      | _, _, _ => False
    | some (.slice e), some (.int _) =>
      match szOf P e, byOf P e, zrOf P e with
      | some s, some y, some z => bif (decide (y ≤ 2 ^ 12) && (decide (0 < s) && (decide (z.cells.size = s) && z.cells.all plainV))) then OP (appZ z s e v x M) fun r => K r.1 r.2 else False
      | _, _, _ => False
    | _, _ => OP (abuiltin P b ts.toArray args.toArray M) fun r => K r.1 r.2
  | .cap, t :: _, [x] =>
    match P.underlying t with
    | some (.slice _) => OP (capV x) fun v => K v M
    | _ => False
  | .len, t :: _, [x] =>
    match P.underlying t with
    | some (.slice _) => OP (lenV x) fun v => K v M
    | some .string => OP (lenS x) fun v => K v M
    | some (.array n _) => K (goInt n) M
    | some (.map _ _) => OP (lenM x M) fun v => K v M
    | _ => False
  | .min, _, [x, y] => OP (amin2 x y) fun v => K v M
  | .max, _, [x, y] => OP (amax2 x y) fun v => K v M
  | b, ts, args => OP (abuiltin P b ts.toArray args.toArray M) fun r => K r.1 r.2

def kop (P : Program) (E : Ext) (ρ : Operand → Value) (o : Op) (M : Store) (K : Value → Store → Prop) : Prop :=
  match o with
  | .move x => K (ρ x) M
  | .assign x => K (ρ x) M
  | .pick c a b => BR (ρ c) (K (ρ a) M) (K (ρ b) M)
  | .alloc t => match zrOf P t with
    | some z => bif z.cells.all plainV then K (.pointer (some ⟨M.n, 0, none⟩)) (M.push (some (.inl (z.cells.toList, t, true)))) else False
    | none => False
  | .box t x => OP (boxv (ρ x)) fun cs => K (.pointer (some ⟨M.n, 0, none⟩)) (M.push (some (.inl (cs, t, true))))
  | .build t ps => match P.underlying t, zrOf P t with
    | some (.struct fs), some z => match aplaces P fs.toList with
      | some q => bif z.cells.all plainV then OP (bldS z.cells q (ps.toList.map fun p => (p.1, ρ p.2))) fun v => K v M else False
      | none => False
    | some (.array _ e), some z => match szOf P e with
      | some s => bif z.cells.all plainV then OP (bldA z.cells s (ps.toList.map fun p => (p.1, ρ p.2))) fun v => K v M else False
      | none => False
    | _, _ => False
  | .buildSlice t n ps => match P.underlying t with
    | some (.slice e) => match szOf P e, zrOf P e with
      | some s, some z => bif (decide (n * s ≤ 2 ^ 24) && (decide (0 < s) && z.cells.all plainV)) then
          OP (bldL z s n (ps.toList.map fun p => (p.1, ρ p.2))) fun cs => K (.slice (some ⟨M.n, 0, none⟩) n n) (M.push (some (.inl (cs, e, true)))) else False
      | _, _ => False
    | _ => False
  | .load t a => match P.underlying t, szOf P t with
    | some d, some s => OP (ld s (aggT d) (ρ a) M) fun v => K v M
    | _, _ => False
  | .store t a x => match szOf P t with
    | some s => OP (st s (ρ a) (ρ x) M) fun M' => K undef M'
    | none => False
  | .nilCheck x => OP (nilc (ρ x)) fun v => K v M
  | .binOp op t x y _ => match P.underlying t with
    | some (.int _) => OP (binI op (ρ x) (ρ y)) fun v => K v M
    | some .string => OP (binS op (ρ x) (ρ y)) fun v => K v M
    | _ => OP (abin P (isConstO x || isConstO y) op t (ρ x) (ρ y)) fun v => K v M
  | .unOp op _ x => OP (aun op (ρ x)) fun v => K v M
  | .convert s d x => match P.underlying s, P.underlying d with
    | some (.int _), some (.int k) => OP (cvI k (ρ x)) fun v => K v M
    | some .string, some (.slice e) => match P.underlying e, szOf P e with
      | some (.int .u8), some 1 => OP (cvSB e (ρ x) M) fun r => K r.1 r.2
      | _, _ => False
    | some (.slice e), some .string => match P.underlying e with
      | some (.int .u8) => OP (cvBS (ρ x) M) fun v => K v M
      | _ => False
    | some (.slice e), some (.slice _) => match P.underlying e with
      | some (.int .u8) => bif Nat.beq s d then OP (cvId (ρ x) M) fun r => K r.1 r.2 else False
      | _ => False
    | _, _ => OP (aconvert P s d (ρ x) M) fun r => K r.1 r.2
  | .makeInterface t x => match P.underlying t with
    | some (.interface _) => False
    | some _ => OP (mkI t (ρ x)) fun v => K v M
    | none => False
  | .makeFunc fn first captured => OP (mkF fn (first.toList.map ρ) (captured.toList.map ρ)) fun v => K v M
  | .makeMap t r => match P.underlying t, r with
    | some (.map _ _), none => K (.map (some M.n)) (M.push (some (.inr (.inl []))))
    | _, _ => False
  | .makeSlice t l c => match P.underlying t with
    | some (.slice e) => match szOf P e, byOf P e, zrOf P e with
      | some s, some y, some z => bif (z.cells.all plainV && decide (0 < s)) then OP (mkS z s y e (ρ l) (ρ c) M) fun r => K r.1 r.2 else False
      | _, _, _ => False
    | _ => False
  | .slice t x lo hi mx => match P.underlying t with
    | some .string => match mx with
      | none => OP (slS (ρ x) (lo.map ρ) (hi.map ρ)) fun v => K v M
      | some _ => False
    | some (.slice e) => match szOf P e with
      | some s => match mx, hi with
        | none, hi => OP (slV s e (ρ x) (lo.map ρ) (hi.map ρ) M) fun v => K v M
        | some m, some h => OP (slM s e (ρ x) (lo.map ρ) (ρ h) (ρ m) M) fun v => K v M
        | some _, none => False
      | none => False
    | _ => False
  | .fieldAddr t x f => match P.underlying t with
    | some (.struct fs) => match fs[f]? with
      | some fd => match szOf P fd.type with
        | some s => bif Nat.beq s 0 then False else OP (fad fd.offset (ρ x)) fun v => K v M
        | none => False
      | none => False
    | _ => False
  | .field t x f => match P.underlying t with
    | some (.struct fs) => match fs[f]? with
      | some fd => match P.underlying fd.type, szOf P fd.type with
        | some d, some s => OP (prt fd.offset s (aggT d) (ρ x)) fun v => K v M
        | _, _ => False
      | none => False
    | _ => False
  | .indexAddr t x i => match P.underlying t with
    | some (.slice e) => match szOf P e with
      | some s => OP (ixA s (ρ x) (ρ i)) fun v => K v M
      | none => False
    | some (.array len e) => match szOf P e with
      | some s => OP (ixP s len (ρ x) (ρ i)) fun v => K v M
      | none => False
    | _ => False
  | .index t x i => match P.underlying t with
    | some .string => OP (ixS (ρ x) (ρ i)) fun v => K v M
    | _ => OP (aindex P t (ρ x) (ρ i)) fun v => K v M
  | .lookup t x k ok => match P.underlying t with
    | some (.map kt e) => match P.underlying kt, zrOf P e with
      | some kd, some z => bif z.cells.all plainV then OP (lku kd z (ρ x) (ρ k) ok M) fun v => K v M else False
      | _, _ => False
    | _ => False
  | .mapUpdate t m k x => match P.underlying t with
    | some (.map kt _) => match P.underlying kt with
      | some kd => OP (mup kd (ρ m) (ρ k) (ρ x) M) fun M' => K undef M'
      | none => False
    | _ => False
  | .extract t i => OP (tup (ρ t) i) fun v => K v M
  | .call c => match c.callee with
    | .builtin b => kbuiltin P b c.argTypes.toList (c.args.toList.map ρ) M K
    | .value f => kcall P E (ρ f) (c.args.toList.map ρ) M K
    | .invoke _ _ => False
  | _ => False

/-- What an operation comes to: a value, or a call that answers. -/
def OpRuns (P : Program) (E : Ext) (ρ : Operand → Value) (o : Op) (M : Store) (K : Value → Store → Prop) : Prop :=
  (∃ v M', aop P ρ o M = some (.inl v, M') ∧ K v M') ∨
  ∃ g f args M1, aop P ρ o M = some (.inr (g, f, args), M1) ∧ ∃ k v M', acall P E k g f args M1 = some (v, M') ∧ K v M'

theorem OpRuns.val {P : Program} {E : Ext} {ρ : Operand → Value} {o : Op} {M : Store} {K : Value → Store → Prop} {x : Option Value}
    (h : OP x fun v => K v M) (e : ∀ v, x = some v → aop P ρ o M = some (.inl v, M)) : OpRuns P E ρ o M K := by
  obtain ⟨v, h1, h2⟩ := OP_iff.1 h
  exact .inl ⟨v, M, e v h1, h2⟩
theorem OpRuns.sto {P : Program} {E : Ext} {ρ : Operand → Value} {o : Op} {M : Store} {K : Value → Store → Prop} {x : Option Store}
    (h : OP x fun M' => K undef M') (e : ∀ v, x = some v → aop P ρ o M = some (.inl undef, v)) : OpRuns P E ρ o M K := by
  obtain ⟨v, h1, h2⟩ := OP_iff.1 h
  exact .inl ⟨_, v, e v h1, h2⟩
theorem OpRuns.both {P : Program} {E : Ext} {ρ : Operand → Value} {o : Op} {M : Store} {K : Value → Store → Prop} {x : Option (Value × Store)}
    (h : OP x fun r => K r.1 r.2) (e : ∀ v, x = some v → aop P ρ o M = some (.inl v.1, v.2)) : OpRuns P E ρ o M K := by
  obtain ⟨v, h1, h2⟩ := OP_iff.1 h
  exact .inl ⟨_, _, e v h1, h2⟩

theorem szOf_some {P : Program} {t : TypeId} {s : Nat} (h : szOf P t = some s) : szOf P t = some s := h

theorem anews_slice {P : Program} {e xt e' : TypeId} {s : Nat} {x : Value} {M : Store} {my : Nat × List Value} (hu : P.underlying xt = some (.slice e')) (h : newV s x M = some my) : anews P e xt s x M = some my := by
  unfold anews
  rw [hu]
  unfold newV at h
  split at h
  · exact h
  · exact h
  · cases h
theorem anews_string {P : Program} {e xt : TypeId} {x : Value} {M : Store} {my : Nat × List Value} (hu : P.underlying xt = some .string) (h : newT x = some my) : anews P e xt 1 x M = some my := by
  unfold anews
  rw [hu]
  unfold newT at h
  split at h
  · simp only [if_true]; exact h
  · cases h
theorem anews_int {P : Program} {e xt : TypeId} {k : IntKind} {s y : Nat} {z x : Value} {M : Store} {my : Nat × List Value} (hu : P.underlying xt = some (.int k)) (hz : zrOf P e = some z) (hy : byOf P e = some y) (h1 : y ≤ 2 ^ 12) (h2 : z.cells.size = s)
    (h3 : z.cells.all plainV = true) (h : newZ z s x = some my) : anews P e xt s x M = some my := by
  unfold newZ at h
  split at h
  · split at h
    · rename_i n hn
      unfold anews
      rw [hu]
      simp only []
      rw [hz, Option.bind_some, hy, if_pos ⟨hn.1, hn.2, h1, h2, h3⟩]; exact h
    · cases h
  · cases h
theorem aappend_of {P : Program} {ts : Array TypeId} {t xt e : TypeId} {s y : Nat} {z v x : Value} {M : Store} {my : Nat × List Value} {r} (ht : ts[0]? = some t) (hxt : ts[1]? = some xt) (hu : P.underlying t = some (.slice e)) (hs : szOf P e = some s)
    (hy : byOf P e = some y) (hz : zrOf P e = some z) (hn : anews P e xt s x M = some my) (h1 : y ≤ 2 ^ 12) (h2 : 0 < s) (h3 : z.cells.size = s) (hg : appG s e v my M = some r) : aappend P ts v x M = some r := by
  unfold aappend
  rw [ht, Option.bind_some, hxt, Option.bind_some, hu]
  simp only [sliceT, Option.bind_some]
  rw [hs, Option.bind_some, hy, Option.bind_some, hz, Option.bind_some, hn, Option.bind_some]
  unfold appG at hg
  split at hg
  · split at hg
    · rename_i h0; simp only [h0, if_true]; exact hg
    · rename_i h0
      split at hg
      · rename_i h4
        simp only [if_neg h0]
        rw [if_pos ⟨h4, h1, h2, h3⟩]; exact hg
      · cases hg
  · cases hg

theorem kbuiltin_sound {P : Program} {E : Ext} {ρ : Operand → Value} {c : Call} {b : Builtin} (hc : c.callee = .builtin b) {M : Store} {K : Value → Store → Prop}
    (h : kbuiltin P b c.argTypes.toList (c.args.toList.map ρ) M K) : OpRuns P E ρ (.call c) M K := by
  have key : ∀ r, abuiltin P b c.argTypes (c.args.map ρ) M = some r → aop P ρ (.call c) M = some (.inl r.1, r.2) := by
    intro r hr
    unfold aop; simp only [hc]; rw [hr]; rfl
  have gen : (OP (abuiltin P b c.argTypes.toList.toArray (c.args.toList.map ρ).toArray M) fun r => K r.1 r.2) → OpRuns P E ρ (.call c) M K := by
    intro h
    refine .both h fun v hv => key v ?_
    have e1 : (c.args.toList.map ρ).toArray = c.args.map ρ := by rw [← Array.toList_map]
    have e2 : c.argTypes.toList.toArray = c.argTypes := rfl
    rw [e1, e2] at hv; exact hv
  have hargs : ∀ l, c.args.toList.map ρ = l → (c.args.map ρ).toList = l := fun l hl => by rw [Array.toList_map]; exact hl
  unfold kbuiltin at h
  split at h
  · rename_i t xt ts v x hts hxs
    have hx := hargs _ hxs
    have ht : c.argTypes[0]? = some t := by rw [← Array.getElem?_toList, hts]; rfl
    have hxt : c.argTypes[1]? = some xt := by rw [← Array.getElem?_toList, hts]; rfl
    have hab : abuiltin P .append c.argTypes (c.args.map ρ) M = aappend P c.argTypes v x M := by
      unfold abuiltin; rw [hx]
    split at h
    · rename_i e e' hu hu'
      split at h
      · rename_i s y z hs hy hz
        cases hb : (decide (y ≤ 2 ^ 12) && (decide (0 < s) && decide (z.cells.size = s))) with
        | false => rw [hb] at h; exact h.elim
        | true =>
          rw [hb] at h
          simp only [Bool.and_eq_true, decide_eq_true_eq] at hb
          refine .both h fun r hr => key r ?_
          simp only [cond_true, appV] at hr
          obtain ⟨my, h1, h2⟩ := Option.bind_eq_some_iff.1 hr
          rw [hab]
          exact aappend_of ht hxt hu hs hy hz (anews_slice hu' h1) hb.1 hb.2.1 hb.2.2 h2
      · exact h.elim
    · rename_i e hu hu'
      split at h
      · rename_i s y z hs hy hz
        cases hb : (decide (y ≤ 2 ^ 12) && (decide (s = 1) && decide (z.cells.size = s))) with
        | false => rw [hb] at h; exact h.elim
        | true =>
          rw [hb] at h
          simp only [Bool.and_eq_true, decide_eq_true_eq] at hb
          refine .both h fun r hr => key r ?_
          simp only [cond_true, appT] at hr
          obtain ⟨my, h1, h2⟩ := Option.bind_eq_some_iff.1 hr
          obtain ⟨hb1, rfl, hb3⟩ := hb
          rw [hab]
          exact aappend_of ht hxt hu hs hy hz (anews_string hu' h1) hb1 (Nat.zero_lt_one) hb3 h2
      · exact h.elim
    · rename_i e k hu hu'
      split at h
      · rename_i s y z hs hy hz
        cases hb : (decide (y ≤ 2 ^ 12) && (decide (0 < s) && (decide (z.cells.size = s) && z.cells.all plainV))) with
        | false => rw [hb] at h; exact h.elim
        | true =>
          rw [hb] at h
          simp only [Bool.and_eq_true, decide_eq_true_eq] at hb
          refine .both h fun r hr => key r ?_
          simp only [cond_true, appZ] at hr
          obtain ⟨my, h1, h2⟩ := Option.bind_eq_some_iff.1 hr
          rw [hab]
          exact aappend_of ht hxt hu hs hy hz (anews_int hu' hz hy hb.1 hb.2.2.1 hb.2.2.2 h1) hb.1 hb.2.1 hb.2.2.1 h2
      · exact h.elim
    · exact gen h
  · rename_i t ts x hts hxs
    have hx := hargs _ hxs
    have ht : c.argTypes[0]? = some t := by rw [← Array.getElem?_toList, hts]; rfl
    have hab : abuiltin P .cap c.argTypes (c.args.map ρ) M = (acap P t x).bind fun v => some (v, M) := by
      unfold abuiltin; rw [hx]; simp only [ht, Option.bind_some]
    split at h
    · rename_i e hu
      refine .val h fun v hv => key (v, M) ?_
      unfold capV at hv
      split at hv
      · rw [hab]; simp only [acap, hu]; rw [hv]; rfl
      · cases hv
    · exact h.elim
  · rename_i t ts x hts hxs
    have hx := hargs _ hxs
    have ht : c.argTypes[0]? = some t := by rw [← Array.getElem?_toList, hts]; rfl
    have hab : abuiltin P .len c.argTypes (c.args.map ρ) M = (alen P t x M).bind fun v => some (v, M) := by
      unfold abuiltin; rw [hx]; simp only [ht, Option.bind_some]
    have hl : ∀ v, alen P t x M = some v → aop P ρ (.call c) M = some (.inl v, M) := fun v hv => key (v, M) (by rw [hab, hv]; rfl)
    split at h
    · rename_i e hu
      refine .val h fun v hv => hl v ?_
      unfold lenV at hv
      split at hv
      · simp only [alen, hu]; exact hv
      · cases hv
    · rename_i hu
      refine .val h fun v hv => hl v ?_
      unfold lenS at hv
      split at hv
      · simp only [alen, hu]; exact hv
      · cases hv
    · rename_i n e hu
      exact .inl ⟨_, M, hl _ (by simp only [alen, hu]), h⟩
    · rename_i kt e hu
      refine .val h fun v hv => hl v ?_
      unfold lenM at hv
      split at hv
      · simp only [alen, hu]; exact hv
      · split at hv
        · rename_i r es hg
          simp only [alen, hu, hg]; exact hv
        · cases hv
      · cases hv
    · exact h.elim
  · rename_i x y hxs
    have hx := hargs _ hxs
    exact .val h fun v hv => key (v, M) (by unfold abuiltin; rw [hx]; simp only [hv, Option.bind_some])
  · rename_i x y hxs
    have hx := hargs _ hxs
    exact .val h fun v hv => key (v, M) (by unfold abuiltin; rw [hx]; simp only [hv, Option.bind_some])
  · exact gen h

end Go.Ab
