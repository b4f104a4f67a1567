/- A call whose argument matters for one remainder alone: it is run up to there, and from there for each remainder. -/
import Derived.Test.YtmdbdbjaipcgeaaAbClosed
import Derived.Test.YtmdbdbjaipcgeaaAbFuel
set_option linter.unusedVariables false
set_option linter.unusedSimpArgs false
namespace Go.Ab

/-- What stands one behind the other. -/
def flatC : Code → List Code
  | .seq x y => flatC x ++ flatC y
  | c => [c]
section
variable (P : Program) (call : ACall) (k : Nat) (rd : Option Nat)
def steps : List Code → AAct → Store → Option (AExit × AAct × Store)
  | [], a, M => some (0, a, M)
  | c :: r, a, M => match acode P call k rd c a M with
    | some (0, a', M') => steps r a' M'
    | r => r
theorem steps_append : ∀ (l r : List Code) (a : AAct) (M : Store), steps P call k rd (l ++ r) a M = match steps P call k rd l a M with
    | some (0, a', M') => steps P call k rd r a' M'
    | r => r
  | [], r, a, M => rfl
  | c :: l, r, a, M => by
    simp only [List.cons_append, steps]
    split
    · exact steps_append l r _ _
    · rename_i h
      split
      · rename_i a' M' h2; exact (h _ _ h2).elim
      · rfl
theorem steps_one (c : Code) (a : AAct) (M : Store) : steps P call k rd [c] a M = acode P call k rd c a M := by
  simp only [steps]
  split
  · rename_i h; rw [h]
  · rfl
theorem acode_flatC : ∀ (c : Code) (a : AAct) (M : Store), acode P call k rd c a M = steps P call k rd (flatC c) a M
  | .seq x y, a, M => by
    simp only [flatC]
    rw [steps_append, ← acode_flatC x, acode]
    cases acode P call k rd x a M with
    | none => rfl
    | some r =>
      obtain ⟨e, a', M'⟩ := r
      cases e with
      | zero => exact acode_flatC y _ _
      | succ e => rfl
  | .skip, a, M => (steps_one ..).symm
  | .region .., a, M => (steps_one ..).symm
  | .cond .., a, M => (steps_one ..).symm
  | .block .., a, M => (steps_one ..).symm
  | .loop .., a, M => (steps_one ..).symm
  | .exit .., a, M => (steps_one ..).symm
  | .ret, a, M => (steps_one ..).symm
  | .rangeFunc .., a, M => (steps_one ..).symm
  | .scope .., a, M => (steps_one ..).symm
  | .label .., a, M => (steps_one ..).symm
  | .goto .., a, M => (steps_one ..).symm
  | .refuse .., a, M => (steps_one ..).symm
end
theorem aops_append {P : Program} {call : ACall} {ops : Array Oper} : ∀ (l r : List Oper) (a : AAct) (M : Store), aops P call ops (l ++ r) a M = (aops P call ops l a M).bind fun s => aops P call ops r s.1 s.2
  | [], r, a, M => rfl
  | o :: l, r, a, M => by
    rw [List.cons_append, aops_step, aops_step]
    cases astep P call ops o a M with
    | none => rfl
    | some s => simp only [Option.bind_some]; exact aops_append l r _ _

/-- How a call ends. -/
def endOf (P : Program) (fn : Func) (r : Option (AExit × AAct × Store)) : Option (Value × Store) := match r with
  | some (e, a, M') => if e ≤ 1 then (atake a.defers M').bind fun M' => (ares P fn.results.toList a M').bind fun vs => if vs.all notTuple then some (atuple vs, M') else none else none
  | none => none
def okB (x : Option (Value × Store)) : Bool := match x with
  | some (.bool b, _) => b
  | _ => false
theorem okB_of {x : Option (Value × Store)} (h : okB x = true) : ∃ M', x = some (.bool true, M') := by
  unfold okB at h
  split at h
  · subst h; exact ⟨_, rfl⟩
  · cases h
def opsAt (fn : Func) (i : Nat) : Array Oper := match fn.body with
  | some c => match (flatC c)[i]? with
    | some (.region _ ops false) => ops
    | _ => #[]
  | none => #[]
def flatOf (fn : Func) : List Code := match fn.body with
  | some c => flatC c
  | none => []
/-- Up to the operation j of the statement i. -/
def preF (P : Program) (E : Ext) (k : Nat) (fn : Func) (i j : Nat) (args : List Value) : Option (AAct × Store) :=
  match steps P (acall P E k) k none ((flatOf fn).take i) (AAct.enter fn.ntmps args) M00 with
  | some (0, a, M) => aops P (acall P E k) (opsAt fn i) ((opsAt fn i).toList.take j) a M
  | _ => none
/-- From there on, where it came to z. -/
def finF (P : Program) (E : Ext) (k : Nat) (fn : Func) (i j : Nat) (d : Tmp) (z : Int) (s : AAct × Store) : Option (Value × Store) :=
  match aops P (acall P E k) (opsAt fn i) ((opsAt fn i).toList.drop (j + 1)) (s.1.put (some d) (.int .i64 z)) s.2 with
  | some (a, M) => endOf P fn (steps P (acall P E k) k none ((flatOf fn).drop (i + 1)) a M)
  | none => none
/-- The two that are divided. -/
def twoF (x y : Operand) (s : AAct × Store) : Value × Value := (s.1.eval x, s.1.eval y)
def remOf (o : Option Oper) : Option (Operand × Operand × Tmp) := o.bind fun o => match o.op, o.dst, o.guard with
  | .binOp .rem _ x y _, some d, none => some (x, y, d)
  | _, _, _ => none

theorem steps_cut {P : Program} {call : ACall} {k : Nat} {l : List Code} {i id : Nat} {ops : Array Oper} (h : l[i]? = some (.region id ops false)) (a : AAct) (M : Store) :
    steps P call k none l a M = match steps P call k none (l.take i) a M with
      | some (0, a, M) => (match aops P call ops ops.toList a M with
        | some (a, M) => steps P call k none (l.drop (i + 1)) a M
        | none => none)
      | r => r := by
  obtain ⟨hi, h⟩ := List.getElem?_eq_some_iff.1 h
  have e : l = l.take i ++ (.region id ops false :: l.drop (i + 1)) := by
    rw [← h, ← List.drop_eq_getElem_cons hi, List.take_append_drop]
  conv => lhs; rw [e, steps_append]
  split
  · rename_i a' M' h1
    simp only [steps, acode]
    rw [if_neg (by decide)]
    cases aops P call ops ops.toList a' M' with
    | none => rfl
    | some r => rfl
  · rfl

theorem forms {P : Program} {E : Ext} {k : Nat} {f : FuncId} {fn : Func} {c : Code} (hf : P.funcs[f]? = some fn) (hE : E f = none) (hb : fn.body = some c) (hn : (fn.name == "runtime.NumGoroutine") = false)
    {args : List Value} {i j : Nat} {x y : Operand} {d : Tmp} (hr : remOf ((opsAt fn i)[j]?) = some (x, y, d)) {s : AAct × Store} (hs : preF P E k fn i j args = some s)
    {w n : Int} (hx : s.1.eval x = .int .i64 w) (hy : s.1.eval y = .int .i64 n) (h0 : n ≠ 0) (hfin : okB (finF P E k fn i j d (w.tmod n) s) = true) :
    ∃ M', acall P E (k + 1) true f args.toArray M00 = some (.bool true, M') := by
  obtain ⟨M', h⟩ := okB_of hfin
  refine ⟨M', ?_⟩
  rw [acall]
  simp only [hE, hf, hb]
  rw [if_neg (by rw [hn]; decide), acode_flatC]
  have hops : ∃ id ops, (flatC c)[i]? = some (.region id ops false) ∧ opsAt fn i = ops := by
    unfold opsAt at hr ⊢
    rw [hb] at hr ⊢
    simp only at hr ⊢
    split at hr
    · rename_i id ops h1
      exact ⟨id, ops, h1, by first | rfl | rw [h1]⟩
    · simp [remOf] at hr
  obtain ⟨id, ops, h1, h2⟩ := hops
  rw [h2] at hr
  have hfl : flatOf fn = flatC c := by unfold flatOf; rw [hb]
  rw [steps_cut h1]
  unfold preF at hs
  unfold finF at h
  rw [h2, hfl] at hs h
  split at hs
  · rename_i a1 M1 hs1
    obtain ⟨o, ho, hr⟩ := Option.bind_eq_some_iff.1 hr
    obtain ⟨hj, hjo⟩ := Array.getElem?_eq_some_iff.1 ho
    have e : ops.toList = ops.toList.take j ++ (o :: ops.toList.drop (j + 1)) := by
      have hj' : j < ops.toList.length := by simpa using hj
      have : ops.toList[j] = o := by simpa using hjo
      rw [← this, ← List.drop_eq_getElem_cons hj', List.take_append_drop]
    have hst : astep P (acall P E k) ops o s.1 s.2 = some (s.1.put (some d) (.int .i64 (w.tmod n)), s.2) := by
      unfold astep
      split at hr
      · rename_i t x' y' p d' hop hd hg
        injection hr with hr
        simp only [Prod.mk.injEq] at hr
        obtain ⟨rfl, rfl, rfl⟩ := hr
        rw [if_pos (by unfold Region.wanted; rw [hg])]
        rw [hop]
        simp only [aop, hx, hy, hd]
        simp only [abin]
        rw [if_neg (by simp), if_neg h0]
        rfl
      · cases hr
    rw [e, aops_append, hs, Option.bind_some, aops_step, hst, Option.bind_some]
    cases hq : aops P (acall P E k) ops (ops.toList.drop (j + 1)) (s.1.put (some d) (.int .i64 (w.tmod n))) s.2 with
    | none => rw [hq] at h; cases h
    | some q =>
      rw [hq] at h
      exact h
  · cases hs

end Go.Ab
