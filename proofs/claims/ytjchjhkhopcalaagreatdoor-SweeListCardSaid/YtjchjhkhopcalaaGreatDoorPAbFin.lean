/- A call whose arguments matter for some bits alone: it is run from one such place to the next, for each of the values there. -/
import Derived.Test.YtjchjhkhopcalaaGreatDoorPKE
set_option linter.unusedVariables false
set_option linter.unusedSimpArgs false
namespace Go.Ab
section
variable (P : Program) (E : Ext) (k : Nat) (fn : Func)
def ad (i j : Nat) (s : AAct × Store) : Option (Value × Store) :=
 match au P (af P E k) (ah fn i) ((ah fn i).toList.drop j) s.1 s.2 with
 | some (a, M) => ir P fn (aF P (af P E k) k none ((az fn).drop (i + 1)) a M)
 | none => none
def toF (i j i2 j2 : Nat) (s : AAct × Store) : Option (AAct × Store) :=
 bif Nat.beq i i2 then au P (af P E k) (ah fn i2) (((ah fn i2).toList.take j2).drop j) s.1 s.2
 else match au P (af P E k) (ah fn i) ((ah fn i).toList.drop j) s.1 s.2 with
  | some (a, M) => match aF P (af P E k) k none (((az fn).take i2).drop (i + 1)) a M with
   | some (0, a, M) => au P (af P E k) (ah fn i2) ((ah fn i2).toList.take j2) a M
   | _ => none
  | none => none
end
theorem c6 {fn : Func} {i j : Nat} {o : Oper} (h : (ah fn i)[j]? = some o) : ∃ id, (az fn)[i]? = some (.region id (ah fn i) false) := by
 unfold ah at h ⊢
 unfold az
 cases hb : fn.body with
 | none => rw [hb] at h; simp at h
 | some c =>
  rw [hb] at h
  simp only at h ⊢
  split at h
  ·rename_i id ops h1
   exact ⟨id, by rw [h1]⟩
  ·simp at h
theorem c8 {P : Program} {call : an} {k id : Nat} {ops : Array Oper} {l : List Code} (a : AAct) (M : Store) :
    aF P call k none (.region id ops false :: l) a M = match au P call ops ops.toList a M with
     | some (a, M) => aF P call k none l a M
     | none => none := by
 simp only [aF, ag]
 rw [if_neg (by decide)]
 cases au P call ops ops.toList a M with
 | none => rfl
 | some r => rfl
theorem iE {P : Program} {E : Ext} {k : Nat} {fn : Func} {i j i2 j2 : Nat} {s s2 s3 : AAct × Store} {o : Oper} (h : toF P E k fn i j i2 j2 s = some s2) (ho : (ah fn i2)[j2]? = some o) (hi : i < i2 ∨ i = i2 ∧ j ≤ j2)
    (hst : aO P (af P E k) (ah fn i2) o s2.1 s2.2 = some s3) : ad P E k fn i j s = ad P E k fn i2 (j2 + 1) s3 := by
 obtain ⟨id, hreg⟩ := c6 ho
 obtain ⟨hj, hjo⟩ := Array.getElem?_eq_some_iff.1 ho
 have hj' : j2 < (ah fn i2).toList.length := by simpa using hj
 have hcons : (ah fn i2).toList.drop j2 = o :: (ah fn i2).toList.drop (j2 + 1) := by
  have : (ah fn i2).toList[j2] = o := by simpa using hjo
  rw [← this, ← List.drop_eq_getElem_cons hj']
 unfold toF at h
 rcases hi with hi | ⟨rfl, hle⟩
 ·have hb : Nat.beq i i2 = false := by
    cases hb : Nat.beq i i2 with
    | false => rfl
    | true => have := Nat.eq_of_beq_eq_true hb; omega
  rw [hb, cond_false] at h
  unfold ad
  cases h1 : au P (af P E k) (ah fn i) ((ah fn i).toList.drop j) s.1 s.2 with
  | none => rw [h1] at h; cases h
  | some r =>
   obtain ⟨a, M⟩ := r
   rw [h1] at h
   simp only at h ⊢
   have hlt : i2 < (az fn).length := (List.getElem?_eq_some_iff.1 hreg).1
   have hsplit : (az fn).drop (i + 1) = ((az fn).take i2).drop (i + 1) ++ (.region id (ah fn i2) false :: (az fn).drop (i2 + 1)) := by
    have e1 : (az fn).drop i2 = .region id (ah fn i2) false :: (az fn).drop (i2 + 1) := by
     have := (List.getElem?_eq_some_iff.1 hreg).2
     rw [← this, ← List.drop_eq_getElem_cons hlt]
    rw [← e1]
    conv => lhs; rw [← List.take_append_drop i2 (az fn)]
    rw [List.drop_append, List.length_take, Nat.min_eq_left (by omega), show i + 1 - i2 = 0 by omega, List.drop_zero]
   rw [hsplit, bp]
   cases h2 : aF P (af P E k) k none (((az fn).take i2).drop (i + 1)) a M with
   | none => rw [h2] at h; cases h
   | some q =>
    obtain ⟨e, a1, M1⟩ := q
    rw [h2] at h
    cases e with
    | succ e => cases h
    | zero =>
     simp only at h ⊢
     rw [c8]
     have e2 : (ah fn i2).toList = (ah fn i2).toList.take j2 ++ (o :: (ah fn i2).toList.drop (j2 + 1)) := by rw [← hcons, List.take_append_drop]
     conv => lhs; arg 3; rw [e2, bz, h, Option.bind_some, bC, hst, Option.bind_some]
     cases au P (af P E k) (ah fn i2) ((ah fn i2).toList.drop (j2 + 1)) s3.1 s3.2 with
     | none => rfl
     | some z => rfl
 ·have hb : Nat.beq i i = true := by simp
  rw [hb, cond_true] at h
  unfold ad
  have e2 : (ah fn i).toList.drop j = ((ah fn i).toList.take j2).drop j ++ (o :: (ah fn i).toList.drop (j2 + 1)) := by
   rw [← hcons]
   conv => lhs; rw [← List.take_append_drop j2 (ah fn i).toList]
   rw [List.drop_append, List.length_take, Nat.min_eq_left (by omega), show j - j2 = 0 by omega, List.drop_zero]
  rw [e2, bz, h, Option.bind_some, bC, hst, Option.bind_some]
def iM (o : Option Oper) : Option (Operand × Int × Tmp) := o.bind fun o => match o.op, o.dst, o.guard with
 | .binOp .and _ x (.const (.int .i64 m)) _, some d, none => some (x, m, d)
 | _, _, _ => none
def bits (n : Int) (m : Nat) : Int := IntKind.wrap .i64 (((BitVec.ofInt 64 n &&& BitVec.ofInt 64 (m : Int)).toNat : Nat) : Int)
theorem bd (n : Int) (m : Nat) (hm : m < 2 ^ 63) : ∃ r : Nat, r ≤ m ∧ bits n m = (r : Int) := by
 have hk : (BitVec.ofInt 64 n &&& BitVec.ofInt 64 (m : Int)).toNat ≤ m := by
  rw [BitVec.toNat_and]
  have : (BitVec.ofInt 64 (m : Int)).toNat = m := by
   simp [BitVec.toNat_ofInt]; omega
  rw [this]
  exact Nat.and_le_right
 exact ⟨_, hk, w64 (by omega) (by omega)⟩
theorem aJ {P : Program} {E : Ext} {k : Nat} {fn : Func} {i j i2 j2 : Nat} {s s2 : AAct × Store} {x : Operand} {m : Nat} {d : Tmp} {n : Int} (hi : i < i2 ∨ i = i2 ∧ j ≤ j2) (ho : iM ((ah fn i2)[j2]?) = some (x, (m : Int), d))
    (h : toF P E k fn i j i2 j2 s = some s2) (hx : s2.1.eval x = .int .i64 n) : ad P E k fn i j s = ad P E k fn i2 (j2 + 1) (s2.1.put (some d) (.int .i64 (bits n m)), s2.2) := by
 obtain ⟨o, ho1, ho⟩ := Option.bind_eq_some_iff.1 ho
 refine iE h ho1 hi ?_
 split at ho
 ·rename_i t x' m' p d' hop hd hg
  injection ho with ho
  simp only [Prod.mk.injEq] at ho
  obtain ⟨rfl, rfl, rfl⟩ := ho
  unfold aO
  rw [if_pos (by unfold Region.wanted; rw [hg]), hop]
  have hc : s2.1.eval (.const (.int .i64 (m : Int))) = .int .i64 (m : Int) := rfl
  simp only [aop, hx, hc, hd, cT, IntKind.bits]
  rw [if_neg (by simp)]
  rfl
 ·cases ho
theorem gL {P : Program} {E : Ext} {k : Nat} {f : FuncId} {fn : Func} {c : Code} (hf : P.funcs[f]? = some fn) (hE : E f = none) (hb : fn.body = some c) (hn : (fn.name == "runtime.NumGoroutine") = false) {o : Oper} (ho : (ah fn 0)[0]? = some o)
    {args : List Value} {M0 : Store} : af P E (k + 1) true f args.toArray M0 = ad P E k fn 0 0 (AAct.enter fn.ntmps args, M0) := by
 obtain ⟨id, hreg⟩ := c6 ho
 rw [af]
 simp only [hE, hf, hb]
 rw [if_neg (by rw [hn]; decide), bx]
 have hfl : az fn = bB c := by unfold az; rw [hb]
 rw [hfl] at hreg
 unfold ad
 rw [hfl]
 cases hl : bB c with
 | nil => rw [hl] at hreg; simp at hreg
 | cons c0 r =>
  rw [hl] at hreg
  simp only [List.getElem?_cons_zero, Option.some.injEq] at hreg
  subst hreg
  rw [c8]
  simp only [List.drop_zero]
  cases au P (af P E k) (ah fn 0) (ah fn 0).toList (AAct.enter fn.ntmps args.toArray.toList) M0 with
  | none => rfl
  | some z => rfl
end Go.Ab
