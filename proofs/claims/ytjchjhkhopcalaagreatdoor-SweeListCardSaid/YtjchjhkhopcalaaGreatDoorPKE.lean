/- ... -/
import Derived.Test.YtjchjhkhopcalaaGreatDoorPKC
import Derived.Test.YtjchjhkhopcalaaGreatDoorPKD
import Derived.KernelRfl
import Derived.Deep.Matrix
import Derived.SliceStrings
import Derived.Laws.Externs
import Derived.Lib.Bytealg
import Derived.Lib.LaidTab
import Derived.Lib.LaidU8
import Derived.MakeChecks
import Derived.Handed
import Derived.LaidLaws
import Derived.Shelf.Strconv.Itoa3
import Derived.Shelf.Strconv.AtoiAll
import Derived.Shelf.Strings.OnBuilder
import Derived.Lib.AtoiErrMem
set_option linter.unusedVariables false
set_option linter.unusedSimpArgs false
namespace Go.Ab
def fm : Array Value → Store → Option (Value × Store) := fun args M => if args.size = 0 then some (.bool true, M) else none
theorem gM {P : Program} {call : an} {f : FuncId} (hc : aj P f (call true f)) {M' : Store} (h : call true f #[] M00 = some (.bool true, M')) : aj P f fm := by
 intro args M v M1 hg
 unfold fm at hg
 split at hg
 ·rename_i ha
  injection hg with hg; injection hg with h1 h2; subst h1; subst h2
  obtain ⟨⟨hf, _⟩, h2⟩ := hc #[] M00 _ M' h
  refine ⟨⟨hf, Grow.refl _⟩, fun μ w cargs hG hR hargs => ?_⟩
  have hcs : cargs = #[] := by
   apply Array.toList_inj.1
   have := hargs.1
   apply List.length_eq_zero_iff.1
   rw [this]; simpa using ha
  subst hcs
  refine (h2 cP w #[] (iw hG.gsh) (eu w hG.gsh) (LRel.nil _)).mono fun e w' ⟨cv, he, μ', hR', hS, hv⟩ => ?_
  have hb := hS.below (fun _ _ h => (bW h).1)
  obtain ⟨t, _, hheap, _⟩ := hS.log
  have hheap : ∀ b, b < w.heap.size → w'.heap[b]? = w.heap[b]? := fun b hb => hheap b hb fun i _ l hl ho => by rw [(bW hl).1] at ho; cases ho
  refine ⟨.bool true, by rw [he, hv.bool], μ, ⟨fun i l hl => ?_, fun i l hl => ?_, hR.excl⟩, ⟨.refl _, Nat.le_refl _, hS.size, hS.os, hS.tape, hS.output, hS.shp, [], rfl, fun b hb _ => hheap b hb, fun i l hl => .inl hl⟩, rfl⟩
  ·exact ⟨(hR.dom i l hl).1, Nat.lt_of_lt_of_le (hR.dom i l hl).2 hS.size⟩
  ·exact (hR.obj i l hl).mono (.refl _) hS.shp (hheap _ (hR.dom i l hl).2)
 ·cases hg
end Go.Ab

set_option linter.unusedVariables false
set_option linter.unusedSimpArgs false
namespace Go.Ab
def bB : Code → List Code
 | .seq x y => bB x ++ bB y
 | c => [c]
section
variable (P : Program) (call : an) (k : Nat) (rd : Option Nat)
def aF : List Code → AAct → Store → Option (a7 × AAct × Store)
 | [], a, M => some (0, a, M)
 | c :: r, a, M => match ag P call k rd c a M with
  | some (0, a', M') => aF r a' M'
  | r => r
theorem bp : ∀ (l r : List Code) (a : AAct) (M : Store), aF P call k rd (l ++ r) a M = match aF P call k rd l a M with
    | some (0, a', M') => aF P call k rd r a' M'
    | r => r
 | [], r, a, M => rfl
 | c :: l, r, a, M => by
  simp only [List.cons_append, aF]
  split
  ·exact bp l r _ _
  ·rename_i h
   split
   ·rename_i a' M' h2; exact (h _ _ h2).elim
   ·rfl
theorem ax (c : Code) (a : AAct) (M : Store) : aF P call k rd [c] a M = ag P call k rd c a M := by
 simp only [aF]
 split
 ·rename_i h; rw [h]
 ·rfl
theorem bx : ∀ (c : Code) (a : AAct) (M : Store), ag P call k rd c a M = aF P call k rd (bB c) a M
 | .seq x y, a, M => by
  simp only [bB]
  rw [bp, ← bx x, ag]
  cases ag P call k rd x a M with
  | none => rfl
  | some r =>
   obtain ⟨e, a', M'⟩ := r
   cases e with
   | zero => exact bx y _ _
   | succ e => rfl
 | .skip, a, M => (ax ..).symm
 | .region .., a, M => (ax ..).symm
 | .cond .., a, M => (ax ..).symm
 | .block .., a, M => (ax ..).symm
 | .loop .., a, M => (ax ..).symm
 | .exit .., a, M => (ax ..).symm
 | .ret, a, M => (ax ..).symm
 | .rangeFunc .., a, M => (ax ..).symm
 | .scope .., a, M => (ax ..).symm
 | .label .., a, M => (ax ..).symm
 | .goto .., a, M => (ax ..).symm
 | .refuse .., a, M => (ax ..).symm
end
theorem bz {P : Program} {call : an} {ops : Array Oper} : ∀ (l r : List Oper) (a : AAct) (M : Store), au P call ops (l ++ r) a M = (au P call ops l a M).bind fun s => au P call ops r s.1 s.2
 | [], r, a, M => rfl
 | o :: l, r, a, M => by
  rw [List.cons_append, bC, bC]
  cases aO P call ops o a M with
  | none => rfl
  | some s => simp only [Option.bind_some]; exact bz l r _ _
def ir (P : Program) (fn : Func) (r : Option (a7 × AAct × Store)) : Option (Value × Store) := match r with
 | some (e, a, M') => if e ≤ 1 then (bL a.defers M').bind fun M' => (cW P fn.results.toList a M').bind fun vs => if vs.all cM then some (dJ vs, M') else none else none
 | none => none
def okB (x : Option (Value × Store)) : Bool := match x with
 | some (.bool b, _) => b
 | _ => false
theorem ff {x : Option (Value × Store)} (h : okB x = true) : ∃ M', x = some (.bool true, M') := by
 unfold okB at h
 split at h
 ·subst h; exact ⟨_, rfl⟩
 ·cases h
def ah (fn : Func) (i : Nat) : Array Oper := match fn.body with
 | some c => match (bB c)[i]? with
  | some (.region _ ops false) => ops
  | _ => #[]
 | none => #[]
def az (fn : Func) : List Code := match fn.body with
 | some c => bB c
 | none => []
def ak (P : Program) (E : Ext) (k : Nat) (fn : Func) (i j : Nat) (args : List Value) (M0 : Store := M00) : Option (AAct × Store) :=
 match aF P (af P E k) k none ((az fn).take i) (AAct.enter fn.ntmps args) M0 with
 | some (0, a, M) => au P (af P E k) (ah fn i) ((ah fn i).toList.take j) a M
 | _ => none
def al (P : Program) (E : Ext) (k : Nat) (fn : Func) (i j : Nat) (d : Tmp) (z : Int) (s : AAct × Store) : Option (Value × Store) :=
 match au P (af P E k) (ah fn i) ((ah fn i).toList.drop (j + 1)) (s.1.put (some d) (.int .i64 z)) s.2 with
 | some (a, M) => ir P fn (aF P (af P E k) k none ((az fn).drop (i + 1)) a M)
 | none => none
def iU (x y : Operand) (s : AAct × Store) : Value × Value := (s.1.eval x, s.1.eval y)
def ix (o : Option Oper) : Option (Operand × Operand × Tmp) := o.bind fun o => match o.op, o.dst, o.guard with
 | .binOp .rem _ x y _, some d, none => some (x, y, d)
 | _, _, _ => none
theorem gW {P : Program} {call : an} {k : Nat} {l : List Code} {i id : Nat} {ops : Array Oper} (h : l[i]? = some (.region id ops false)) (a : AAct) (M : Store) :
    aF P call k none l a M = match aF P call k none (l.take i) a M with
     | some (0, a, M) => (match au P call ops ops.toList a M with
      | some (a, M) => aF P call k none (l.drop (i + 1)) a M
      | none => none)
     | r => r := by
 obtain ⟨hi, h⟩ := List.getElem?_eq_some_iff.1 h
 have e : l = l.take i ++ (.region id ops false :: l.drop (i + 1)) := by
  rw [← h, ← List.drop_eq_getElem_cons hi, List.take_append_drop]
 conv => lhs; rw [e, bp]
 split
 ·rename_i a' M' h1
  simp only [aF, ag]
  rw [if_neg (by decide)]
  cases au P call ops ops.toList a' M' with
  | none => rfl
  | some r => rfl
 ·rfl
theorem kS {P : Program} {E : Ext} {k : Nat} {f : FuncId} {fn : Func} {c : Code} (hf : P.funcs[f]? = some fn) (hE : E f = none) (hb : fn.body = some c) (hn : (fn.name == "runtime.NumGoroutine") = false)
    {args : List Value} {M0 : Store} {i j : Nat} {x y : Operand} {d : Tmp} (hr : ix ((ah fn i)[j]?) = some (x, y, d)) {s : AAct × Store} (hs : ak P E k fn i j args M0 = some s)
    {w n : Int} (hx : s.1.eval x = .int .i64 w) (hy : s.1.eval y = .int .i64 n) (h0 : n ≠ 0) (hfin : okB (al P E k fn i j d (w.tmod n) s) = true) :
    ∃ M', af P E (k + 1) true f args.toArray M0 = some (.bool true, M') := by
 obtain ⟨M', h⟩ := ff hfin
 refine ⟨M', ?_⟩
 rw [af]
 simp only [hE, hf, hb]
 rw [if_neg (by rw [hn]; decide), bx]
 have hops : ∃ id ops, (bB c)[i]? = some (.region id ops false) ∧ ah fn i = ops := by
  unfold ah at hr ⊢
  rw [hb] at hr ⊢
  simp only at hr ⊢
  split at hr
  ·rename_i id ops h1
   exact ⟨id, ops, h1, by first | rfl | rw [h1]⟩
  ·simp [ix] at hr
 obtain ⟨id, ops, h1, h2⟩ := hops
 rw [h2] at hr
 have hfl : az fn = bB c := by unfold az; rw [hb]
 rw [gW h1]
 unfold ak at hs
 unfold al at h
 rw [h2, hfl] at hs h
 split at hs
 ·rename_i a1 M1 hs1
  obtain ⟨o, ho, hr⟩ := Option.bind_eq_some_iff.1 hr
  obtain ⟨hj, hjo⟩ := Array.getElem?_eq_some_iff.1 ho
  have e : ops.toList = ops.toList.take j ++ (o :: ops.toList.drop (j + 1)) := by
   have hj' : j < ops.toList.length := by simpa using hj
   have : ops.toList[j] = o := by simpa using hjo
   rw [← this, ← List.drop_eq_getElem_cons hj', List.take_append_drop]
  have hst : aO P (af P E k) ops o s.1 s.2 = some (s.1.put (some d) (.int .i64 (w.tmod n)), s.2) := by
   unfold aO
   split at hr
   ·rename_i t x' y' p d' hop hd hg
    injection hr with hr
    simp only [Prod.mk.injEq] at hr
    obtain ⟨rfl, rfl, rfl⟩ := hr
    rw [if_pos (by unfold Region.wanted; rw [hg])]
    rw [hop]
    simp only [aop, hx, hy, hd]
    simp only [cT]
    rw [if_neg (by simp), if_neg h0]
    rfl
   ·cases hr
  rw [e, bz, hs, Option.bind_some, bC, hst, Option.bind_some]
  cases hq : au P (af P E k) ops (ops.toList.drop (j + 1)) (s.1.put (some d) (.int .i64 (w.tmod n))) s.2 with
  | none => rw [hq] at h; cases h
  | some q =>
   rw [hq] at h
   exact h
 ·cases hs
end Go.Ab

set_option linter.unusedVariables false
set_option linter.unusedSimpArgs false
namespace Go.Ab
theorem eg (b o k : Nat) : (⟨b, o, none⟩ : Addr).add k = ⟨b, o + k, none⟩ := by
 simp only [Addr.add]; split <;> simp [*]
def kil (v : Value) : Option Nat := match v with
 | .slice (some a) n c => if c = n then none else some a.block
 | _ => none
abbrev kl (v : Value) : List Nat := (kil v).toList
def bv (x : UInt8) : Value := .int .u8 (x.toNat : Int)
theorem w64 {x : Int} (h1 : -9223372036854775808 ≤ x) (h2 : x ≤ 9223372036854775807) : IntKind.wrap .i64 x = x := by
 simp [IntKind.wrap, IntKind.bits, IntKind.signed]
 omega
theorem iH (p : Prop) [Decidable p] (A B : Prop) : BR (.bool (decide p)) A B = if p then A else B := by
 by_cases h : p <;> simp [BR, h]
theorem i1 (k : IntKind) (a b : Int) (K : Value → Prop) : OP (aS .add (.int k a) (.int k b)) K = K (.int k (k.wrap (a + b))) := by cases k <;> rfl
theorem jf (k : IntKind) (a b : Int) (K : Value → Prop) : OP (aS .sub (.int k a) (.int k b)) K = K (.int k (k.wrap (a - b))) := by cases k <;> rfl
theorem jc (k : IntKind) (a b : Int) (K : Value → Prop) : OP (aS .mul (.int k a) (.int k b)) K = K (.int k (k.wrap (a * b))) := by cases k <;> rfl
theorem i9 (k : IntKind) (a b : Int) (K : Value → Prop) : OP (aS .lss (.int k a) (.int k b)) K = K (.bool (decide (a < b))) := by cases k <;> rfl
theorem i8 (k : IntKind) (a b : Int) (K : Value → Prop) : OP (aS .leq (.int k a) (.int k b)) K = K (.bool (decide (a ≤ b))) := by cases k <;> rfl
theorem i7 (k : IntKind) (a b : Int) (K : Value → Prop) : OP (aS .gtr (.int k a) (.int k b)) K = K (.bool (decide (a > b))) := by cases k <;> rfl
theorem i6 (k : IntKind) (a b : Int) (K : Value → Prop) : OP (aS .geq (.int k a) (.int k b)) K = K (.bool (decide (a ≥ b))) := by cases k <;> rfl
theorem i4 (k : IntKind) (a b : Int) (K : Value → Prop) : OP (aS .eql (.int k a) (.int k b)) K = K (.bool (decide (a = b))) := by cases k <;> rfl
theorem jd (k : IntKind) (a b : Int) (K : Value → Prop) : OP (aS .neq (.int k a) (.int k b)) K = K (.bool (decide (a ≠ b))) := by
 have : (a != b) = decide (a ≠ b) := by by_cases h : a = b <;> simp [h]
 cases k <;> simp [OP, aS, this]
theorem je (b : Bool) (K : Value → Prop) : OP (aun .not (.bool b)) K = K (.bool (!b)) := rfl
theorem i3 (k j : IntKind) (n : Int) (K : Value → Prop) : OP (cvI k (.int j n)) K = K (.int k (k.wrap n)) := rfl
theorem jb (k j : IntKind) (a b : Int) (K : Value → Prop) : OP (eG (.int k a) (.int j b)) K = K (.int k (if b < a then b else a)) := rfl
theorem ja (k j : IntKind) (a b : Int) (K : Value → Prop) : OP (eF (.int k a) (.int j b)) K = K (.int k (if b > a then b else a)) := rfl
theorem iN (a : Option Addr) (n c : Nat) (K : Value → Prop) : OP (iR (.slice a n c)) K = K (.int .i64 n) := rfl
theorem iQ (a : Addr) (K : Value → Prop) : OP (iS (.pointer (some a))) K = K (.pointer (some a)) := rfl
theorem i5 (f b o : Nat) (K : Value → Prop) : OP (fad f (.pointer (some ⟨b, o, none⟩))) K = K (.pointer (some ⟨b, o + f, none⟩)) := rfl
theorem iO (z : Value) (K : List Value → Prop) : OP (f9 z 1 0 []) K = K [] := by kernel_rfl
theorem iP (z : Value) (k : IntKind) (n : Int) (K : List Value → Prop) : OP (f9 z 1 1 [(0, .int k n)]) K = K [.int k n] := by kernel_rfl
theorem ev : (∀ (α : Type) (v : α) (k : α → Prop), OP (some v) k = k v) ∧ (∀ v M k, OP2 (some (v, M)) k = k v M) ∧ (∀ v M k, LT v M k = k v M) ∧ (∀ A B, BR (.bool true) A B = A) ∧ (∀ A B, BR (.bool false) A B = B) ∧
    (∀ (p : Prop) [Decidable p] A B, BR (.bool (decide p)) A B = if p then A else B) ∧
    (∀ k a b K, OP (aS .add (.int k a) (.int k b)) K = K (.int k (k.wrap (a + b)))) ∧ (∀ k a b K, OP (aS .sub (.int k a) (.int k b)) K = K (.int k (k.wrap (a - b)))) ∧ (∀ k a b K, OP (aS .mul (.int k a) (.int k b)) K = K (.int k (k.wrap (a * b)))) ∧
    (∀ k a b K, OP (aS .lss (.int k a) (.int k b)) K = K (.bool (decide (a < b)))) ∧ (∀ k a b K, OP (aS .leq (.int k a) (.int k b)) K = K (.bool (decide (a ≤ b)))) ∧ (∀ k a b K, OP (aS .gtr (.int k a) (.int k b)) K = K (.bool (decide (a > b)))) ∧
    (∀ k a b K, OP (aS .geq (.int k a) (.int k b)) K = K (.bool (decide (a ≥ b)))) ∧ (∀ k a b K, OP (aS .eql (.int k a) (.int k b)) K = K (.bool (decide (a = b)))) ∧ (∀ k a b K, OP (aS .neq (.int k a) (.int k b)) K = K (.bool (decide (a ≠ b)))) ∧
    (∀ b K, OP (aun .not (.bool b)) K = K (.bool (!b))) ∧ (∀ k j n K, OP (cvI k (.int j n)) K = K (.int k (k.wrap n))) ∧ (∀ k j a b K, OP (eG (.int k a) (.int j b)) K = K (.int k (if b < a then b else a))) ∧ (∀ k j a b K, OP (eF (.int k a) (.int j b)) K = K (.int k (if b > a then b else a))) ∧
    (∀ a n c K, OP (iR (.slice a n c)) K = K (.int .i64 (n : Int))) ∧ (∀ a K, OP (iS (.pointer (some a))) K = K (.pointer (some a))) ∧ (∀ f b o K, OP (fad f (.pointer (some ⟨b, o, none⟩))) K = K (.pointer (some ⟨b, o + f, none⟩))) ∧
    (∀ z K, OP (f9 z 1 0 []) K = K []) ∧ (∀ z k n K, OP (f9 z 1 1 [(0, .int k n)]) K = K [.int k n]) :=
 ⟨fun _ _ _ => rfl, fun _ _ _ => rfl, fun _ _ _ => rfl, fun _ _ => rfl, fun _ _ => rfl, fun p _ A B => iH p A B, i1, jf, jc, i9, i8, i7, i6, i4, jd, je, i3, jb, ja, iN, iQ, i5, iO, iP⟩
end Go.Ab

set_option linter.unusedVariables false
set_option linter.unusedSimpArgs false
namespace Go.Ab
open Go.RowKit Go.ChangeShapes Go.WideShapes Go.ChangeAt
structure Lay (P : Program) (w : World) (μ : Map) (M : Store) : Prop where
 rel : Rel P μ M w
 ro : ∀ i l, μ i = some l → l.own = false
 glob : GOk μ w.shape?
theorem Lay.start {P : Program} (w : World) (hw : Gsh w := by intro g i h; cases h) : Lay P w cP M00 := ⟨eu w hw, fun _ _ h => (bW h).1, iw hw⟩
theorem eW {w : World} {a : Addr} {n : Nat} {f : Nat → Value} (hn : 0 < n) (h : ∀ i, i < n → w.cell? (a.add i) = some (f i)) :
    a.spot = none ∧ ∃ cc ce fr, w.heap[a.block]? = some (.cells cc ce fr) ∧ (cc.toList.drop a.off).take n = (List.range n).map f := by
 have h0 := h 0 hn
 have e0 : a.add 0 = a := by simp [Addr.add]
 rw [e0] at h0
 unfold World.cell? at h0
 split at h0
 ·rename_i cc ce fr hb
  split at h0
  ·cases h0
  ·rename_i hs
   have hs' : a.spot = none := by cases hsp : a.spot with | none => rfl | some x => rw [hsp] at hs; simp at hs
   refine ⟨hs', cc, ce, fr, hb, ?_⟩
   have hall : ∀ i, i < n → cc.toList[a.off + i]? = some (f i) := by
    intro i hi
    have := h i hi
    obtain ⟨b, o, sp⟩ := a
    simp only at hs' hb
    subst hs'
    rw [eg] at this
    unfold World.cell? at this
    simp only [hb] at this
    simpa using this
   apply List.ext_getElem?
   intro i
   rw [List.getElem?_take, List.getElem?_drop, List.getElem?_map]
   by_cases hi : i < n
   ·rw [if_pos hi, hall i hi, List.getElem?_range hi]; rfl
   ·rw [if_neg hi, List.getElem?_eq_none (by simp; omega)]; rfl
 ·cases h0
end Go.Ab

set_option linter.unusedVariables false
set_option linter.unusedSimpArgs false
namespace Go.Ab
def gm : Array Value → Store → Option (Value × Store) := fun args M => match args.toList with
 | [.string s, .int .u8 c] => some (.int .i64 (Lib.indexByte s.data.toList c.toNat.toUInt8), M)
 | _ => none
def ga : Array Value → Store → Option (Value × Store) := fun args M => match args.toList with
 | [.string s, .int .u8 c] => some (.int .i64 (Lib.countByte s.data.toList c.toNat.toUInt8 : Nat), M)
 | _ => none
theorem eZ {P : Program} {f : FuncId} {fn : Func} {e : Array Value → Sem Value} (hf : P.funcs[f]? = some fn) (hn : (fn.name == "runtime.NumGoroutine") = false) (hb : fn.body.isNone = true) (hx : Extern.findNext fn = none) (he : Extern.find fn = some e)
    {g : Array Value → Store → Option (Value × Store)} (hg : ∀ args M r, g args M = some r → r.2 = M ∧ (∀ x ∈ args.toList, bl x = true ∧ ∀ sh, ∀ μ u, VRel P μ sh u x → u = x) ∧ (∀ μ sh, VRel P μ sh r.1 r.1) ∧ ∀ w, (e args).run P w = .ok r.1 w) : aX P f g := by
 intro args M v M' h
 obtain ⟨h1, h2, h3, h4⟩ := hg args M _ h
 simp only at h1; subst h1
 refine ⟨Grow.refl _, fun x hx l a b he => ?_, fun μ w cargs hG hR hargs => ?_⟩
 ·have := (h2 x hx).1; rw [he] at this; cases this
 ·have hc : cargs = args := by
    apply Array.toList_inj.1
    apply List.ext_getElem hargs.1
    intro i h5 h6
    have := hargs.2 i _ _ (List.getElem?_eq_getElem h5) (List.getElem?_eq_getElem h6)
    exact (h2 _ (List.getElem_mem h6)).2 _ _ _ this
  subst hc
  refine ⟨v, w, ?_, μ, hR, Step.refl _ _ _, h3 _ _⟩
  rw [run_callFunc_extern hf hn hb hx he, h4 w]; rfl
theorem iW {P : Program} {μ : Map} {sh : Shp} {u : Value} {s : ByteArray} (h : VRel P μ sh u (.string s)) : u = .string s := h.string
theorem iV {P : Program} {μ : Map} {sh : Shp} {u : Value} {k : IntKind} {n : Int} (h : VRel P μ sh u (.int k n)) : u = .int k n := h.int
theorem fM {P : Program} {f : FuncId} {fn : Func} (hf : P.funcs[f]? = some fn) (hn : (fn.name == "runtime.NumGoroutine") = false) (hb : fn.body.isNone = true) (hx : Extern.findNext fn = none) (he : Extern.find fn = some Extern.BytealgIndexByte.indexByte) : aX P f gm := by
 refine eZ hf hn hb hx he fun args M r h => ?_
 unfold gm at h
 split at h
 ·rename_i s c hargs
  injection h with h; subst h
  obtain rfl : args = #[.string s, .int .u8 c] := by apply Array.toList_inj.1; simpa using hargs
  refine ⟨rfl, fun x hx => ?_, fun μ sh => VRel.mkInt _ _, fun w => Lib.run_indexByteString s c w⟩
  simp only [List.mem_cons, List.not_mem_nil, or_false] at hx
  rcases hx with rfl | rfl
  ·exact ⟨rfl, fun _ _ _ h => iW h⟩
  ·exact ⟨rfl, fun _ _ _ h => iV h⟩
 ·cases h
theorem fH {P : Program} {f : FuncId} {fn : Func} (hf : P.funcs[f]? = some fn) (hn : (fn.name == "runtime.NumGoroutine") = false) (hb : fn.body.isNone = true) (hx : Extern.findNext fn = none) (he : Extern.find fn = some Extern.BytealgCount.count) : aX P f ga := by
 refine eZ hf hn hb hx he fun args M r h => ?_
 unfold ga at h
 split at h
 ·rename_i s c hargs
  injection h with h; subst h
  obtain rfl : args = #[.string s, .int .u8 c] := by apply Array.toList_inj.1; simpa using hargs
  refine ⟨rfl, fun x hx => ?_, fun μ sh => VRel.mkInt _ _, fun w => Lib.run_countString s c w⟩
  simp only [List.mem_cons, List.not_mem_nil, or_false] at hx
  rcases hx with rfl | rfl
  ·exact ⟨rfl, fun _ _ _ h => iW h⟩
  ·exact ⟨rfl, fun _ _ _ h => iV h⟩
 ·cases h
end Go.Ab

set_option linter.unusedVariables false
set_option linter.unusedSimpArgs false
namespace Go.Ab
open Go.RowKit Go.ChangeShapes Go.WideShapes Go.ChangeAt
def gR (P : Program) : Bool := (List.range ay.length).all fun i => match ay[i]? with
 | some g => decide (g < P.globals.size) && (match ((begin P (fun _ _ => 0) default).world.heap[g]?).bind Obj.row? with
  | some (z, _) => Nat.beq z.size (gsz.getD i 0)
  | none => false)
 | none => false
theorem fA {P : Program} {w : World} (h : gR P = true) (hS : w.ShapedOpen P) : Gsh w := fun g i hi => by
 have hg := (d6 _ _ _ _ hi).2
 simp only [Nat.sub_zero] at hg
 have := List.all_eq_true.1 h i (List.mem_range.2 (List.getElem?_eq_some_iff.1 hg).1)
 rw [hg] at this
 simp only [Bool.and_eq_true, decide_eq_true_eq] at this
 obtain ⟨h1, h2⟩ := this
 split at h2
 ·rename_i z t h3
  obtain ⟨cs, h4, h5, _⟩ := hS.1 g z t h1 h3
  refine ⟨t, ?_⟩
  unfold World.shape?
  rw [h4, ← Nat.eq_of_beq_eq_true h2, ← h5]
 ·cases h2
theorem cD {H : Type} {enc : TypeId × Value → H} {a : Assume} {C : Checked} {os : Os} {f : FuncId} {fn : Func} {s : ChangeSpec} {aR fresh handsOn again : Bool} {X : World → Array Value → Prop}
    (hX : ∀ (w w' : World) (args : Array Value), w.heap = w'.heap → X w args → X w' args)
    (own : ownKnob C.prog.godebug = none) (started : os.Started) (noInit : C.prog.inits.idxOf? f = none) (hfn : C.prog.funcs[f]? = some fn)
    (witness : ∃ (w : World) (tape : Tape) (i : Input), w.os = os ∧ (w.forCall tape i).Shaped C.prog ∧ i.vars = [] ∧ Input.okWide C.prog (w.forCall tape i) .any w.heap.size f i ∧
     ((s.pre enc C.prog fn [] aR (w.forCall tape i).memory i.args ∧ X (w.forCall tape i).memory i.args) ∧ sizedMet enc C.prog fn (OpenSpec.ofChange s) aR (w.forCall tape i).memory i.args) ∧ a.holds C.prog (lone (Frame.enter C.prog f i.args .normal) [] (w.forCall tape i)))
    (bT : ∀ (W : World) (base : Nat) (args : Array Value) (ds gs : List (DataW H)) (before : List MemPlace), W.ShapedOpen C.prog → X W args →
     (∀ (j : Nat) t v, fn.params[j]? = some t → args[j]? = some v → Value.okWide C.prog W .any base t v) →
     DataW.Whole enc C.prog fn.params.toList s.vars aR W args.toList ds gs before →
     Calls C.prog f args W fun e W' => ∃ v, e = .returned v ∧ s.post enc C.prog fn aR fresh handsOn again W args v W') :
    ReturnsInHanded a C os f .any (fun w args => (s.pre enc C.prog fn [] aR w args ∧ X w args) ∧ sizedMet enc C.prog fn (OpenSpec.ofChange s) aR w args) (s.post enc C.prog fn aR fresh handsOn again) := by
 refine returnsInHanded_of_calls own started noInit witness ?_
 intro w tape i _ hS _ hok hpre _
 obtain ⟨_, _, _, fn', hfn', _, _, _, _, hval⟩ := hok
 obtain rfl : fn' = fn := Option.some.inj (hfn'.symm.trans hfn)
 obtain ⟨⟨⟨ds, gs, before, hw, _⟩, hx⟩, _⟩ := hpre
 refine (bT (w.forCall tape i) w.heap.size i.args ds gs before hS (hX _ _ _ (by rfl) hx) hval (DataW.Whole.of_heap (w' := w.forCall tape i) (by rfl) hw)).mono fun e W' h => ?_
 obtain ⟨v, rfl, hp⟩ := h
 exact ChangeSpec.post_blind hp
end Go.Ab

set_option linter.unusedVariables false
set_option linter.unusedSimpArgs false
namespace Go.Ab
open Go.RowKit Go.Proofs Go.Shelf
theorem cK {P : Program} {f : FuncId} {fn : Func} {c : Code} (hf : P.funcs[f]? = some fn) (hb : fn.body = some c) (hn : (fn.name == "runtime.NumGoroutine") = false) {g : Array Value → Store → Option (Value × Store)}
    (hg : ∀ args M v M', g args M = some (v, M') → M' = M ∧ ∀ μ w cargs, GOk μ w.shape? → Rel P μ M w → LRel (VRel P μ w.shape?) cargs.toList args.toList →
     Calls P f cargs w fun e w' => ∃ cv, e = .returned cv ∧ (∀ sh, VRel P μ sh cv v) ∧ Below w.heap.size w w') : aj P f g := by
 intro args M v M' h
 obtain ⟨rfl, h2⟩ := hg args M v M' h
 refine ⟨⟨⟨fn, c, hf, hb, hn⟩, Grow.refl _⟩, fun μ w cargs hG hR hargs => ?_⟩
 refine (h2 μ w cargs hG hR hargs).mono fun e w' ⟨cv, he, hv, hB⟩ => ⟨cv, he, μ, ?_, ?_, hv _⟩
 ·have hsh : SLe w.shape? w'.shape? := fun b x hx => by
    unfold World.shape? at hx ⊢
    rw [hB.block b (cN (w := w) (x := x) hx)]; exact hx
  exact ⟨fun i l hl => ⟨(hR.dom i l hl).1, Nat.lt_of_lt_of_le (hR.dom i l hl).2 hB.size⟩, fun i l hl => (hR.obj i l hl).mono (.refl _) hsh (hB.block _ (hR.dom i l hl).2), hR.excl⟩
 ·have hsh : SLe w.shape? w'.shape? := fun b x hx => by
    unfold World.shape? at hx ⊢
    rw [hB.block b (cN (w := w) (x := x) hx)]; exact hx
  exact ⟨.refl _, Nat.le_refl _, hB.size, hB.os, hB.tape, hB.output, hsh, [], rfl, fun b hb _ => hB.block b hb, fun i l hl => .inl hl⟩
def dP (k : IntKind) : List Value → List Nat → Bool
 | [], [] => true
 | .int j (.ofNat n) :: r, m :: s => decide (j = k) && Nat.beq n m && dP k r s
 | _, _ => false
theorem ep {k : IntKind} : ∀ {l : List Value} {m : List Nat}, dP k l m = true → l = m.map fun (n : Nat) => Value.int k (n : Int)
 | [], [], _ => rfl
 | [], _ :: _, h => by cases h
 | v :: r, [], h => by cases v <;> first | (cases h; done) | (rename_i j n; cases n <;> cases h)
 | v :: r, m :: s, h => by
  cases v with
  | int j n =>
   cases n with
   | ofNat n =>
    simp only [dP, Bool.and_eq_true, decide_eq_true_eq] at h
    obtain ⟨⟨rfl, h2⟩, h3⟩ := h
    rw [ep h3, Nat.eq_of_beq_eq_true h2]; rfl
   | negSucc n => cases h
  | _ => cases h
def gT : List Nat := [1, 10, 100, 1000, 10000, 100000, 1000000, 10000000, 100000000, 1000000000, 10000000000, 100000000000, 1000000000000, 10000000000000, 100000000000000, 1000000000000000, 10000000000000000, 100000000000000000, 1000000000000000000, 10000000000000000000]
def eI (o : av) : Bool := match o with
 | some (.inl (c, _, _)) => dP .u64 c gT
 | _ => false
def de (o : av) : Bool := match o with
 | some (.inl ([.iface _ _], _, _)) => true
 | _ => false
theorem iD {P : Program} {μ : Map} {M : Store} {w : World} (hG : GOk μ w.shape?) (hR : Rel P μ M w) {name : String} {g i : Nat} (hn : P.globalNamed name = some g) (hi : gix ay 0 g = some i) (hz : gsz.getD i 0 = 20) (h : eI (M.get i) = true) :
    Lib.TabIs P w name .u64 Lib.pow10Tab := by
 obtain ⟨h1, e, h2⟩ := hG g i hi
 have ho := hR.obj i _ h1
 unfold eI at h
 split at h
 ·rename_i c e' own hM
  rw [hM] at ho
  obtain ⟨_, cc, ce, fr, hb, hc, _⟩ := ho
  have hcv := ep h
  simp only [World.shape?, hb, Option.some.injEq, Prod.mk.injEq] at h2
  have hl : c.length = 20 := by rw [hcv]; rfl
  have hcc : cc.toList = c := by
   simp only [List.drop_zero] at hc
   rw [List.take_of_length_le (by rw [Array.length_toList, h2.2, hz, hl]; exact Nat.le_refl _)] at hc
   apply List.ext_getElem hc.1
   intro j k1 k2
   have hr := hc.2 j _ _ (List.getElem?_eq_getElem k1) (List.getElem?_eq_getElem k2)
   obtain ⟨n, hn⟩ : ∃ n : Nat, c[j] = Value.int .u64 (n : Int) := by
    have hm : c[j] ∈ gT.map fun (n : Nat) => Value.int .u64 (n : Int) := hcv ▸ List.getElem_mem k2
    obtain ⟨n, _, hn⟩ := List.mem_map.1 hm
    exact ⟨n, hn.symm⟩
   rw [hn] at hr ⊢
   exact (VRel.of_D (.of_C hr)).int
  unfold Lib.TabIs World.var?
  rw [hn]
  simp only [Option.bind_some, hb]
  congr 1
  apply Array.toList_inj.1
  rw [hcc, hcv]
  rfl
 ·cases h
theorem fJ {P : Program} {μ : Map} {M : Store} {w : World} (hG : GOk μ w.shape?) (hR : Rel P μ M w) {g i : Nat} (hi : gix ay 0 g = some i) (h : de (M.get i) = true) :
    ∃ ev, w.cell? ⟨g, 0, none⟩ = some ev ∧ ∃ te pe, ev = .iface te pe := by
 obtain ⟨h1, _⟩ := hG g i hi
 have ho := hR.obj i _ h1
 unfold de at h
 split at h
 ·rename_i x y e' own hM
  obtain ⟨us, h3, h4, h5⟩ := bw hR (b := i) (o := 0) (n := 1) (cs := [.iface x y]) (by unfold bg; rw [hM]; rfl) h1
  have h0 : 0 < us.length := by omega
  obtain ⟨v, hv, hr⟩ := h3.get' (List.getElem?_eq_getElem h0)
  obtain rfl : Value.iface x y = v := Option.some.inj hv
  refine ⟨us[0], h5 0 _ (List.getElem?_eq_getElem h0), ?_⟩
  generalize us[0] = u at hr
  cases u <;> first
   | exact ⟨_, _, rfl⟩
   | exact hr.elim
 ·cases h
def eY : Nat → Nat → List UInt8
 | 0, _ => []
 | k + 1, u => bif Nat.blt u 10 then [UInt8.ofNat (48 + u)] else eY k (u / 10) ++ [UInt8.ofNat (48 + u % 10)]
theorem d5 : ∀ (k u : Nat), u < 10 ^ k → 0 < k → eY k u = Lib.decDigits u
 | 0, _, _, h => absurd h (by decide)
 | k + 1, u, h, _ => by
  unfold eY
  rw [Lib.decDigits]
  by_cases h1 : u < 10
  ·rw [dif_pos h1]
   have : Nat.blt u 10 = true := by simpa using h1
   rw [this]; rfl
  ·rw [dif_neg h1]
   have : Nat.blt u 10 = false := by
    cases hb : Nat.blt u 10 with
    | false => rfl
    | true => exact absurd (by simpa using hb) h1
   rw [this]
   have hk : 0 < k := by
    rcases k with _ | k
    ·simp at h; omega
    ·omega
   rw [cond_false, d5 k (u / 10) (by rw [Nat.pow_succ] at h; omega) hk]
def dec (n : Int) : List UInt8 := match n with
 | .ofNat u => eY 20 u
 | .negSucc u => 45 :: eY 20 (u + 1)
theorem gO {n : Int} (h0 : -9223372036854775808 ≤ n) (h1 : n ≤ 9223372036854775807) : dec n = Lib.itoa n := by
 unfold dec Lib.itoa
 cases n with
 | ofNat u =>
  rw [if_neg (by simp)]
  exact d5 20 u (by simp at h1; omega) (by decide)
 | negSucc u =>
  rw [if_pos (Int.negSucc_lt_zero u)]
  simp only [Int.natAbs_negSucc]
  congr 1
  exact d5 20 (u + 1) (by omega) (by decide)
theorem bK {P : Program} {μ : Map} {sh : Shp} {cargs args : Array Value} {a : Value} (h : LRel (VRel P μ sh) cargs.toList args.toList) (e : args.toList = [a]) : ∃ c, cargs = #[c] ∧ VRel P μ sh c a := by
 rw [e] at h
 have hl := h.1
 match hc : cargs.toList, hl, h with
 | [c], _, h => exact ⟨c, by apply Array.toList_inj.1; rw [hc], h.head⟩
theorem iZ {P : Program} {μ : Map} {sh : Shp} {cargs args : Array Value} {a b : Value} (h : LRel (VRel P μ sh) cargs.toList args.toList) (e : args.toList = [a, b]) : ∃ c d, cargs = #[c, d] ∧ VRel P μ sh c a ∧ VRel P μ sh d b := by
 rw [e] at h
 have hl := h.1
 match hc : cargs.toList, hl, h with
 | [c, d], _, h => exact ⟨c, d, by apply Array.toList_inj.1; rw [hc], h.head, h.tail.head⟩
def gl (pb : Nat) : Array Value → Store → Option (Value × Store) := fun args M => match args.toList with
 | [.int .i64 n] => bif decide (0 ≤ n) && decide (n < 100) then some (.string ⟨(dec n).toArray⟩, M)
  else bif decide (-9223372036854775808 ≤ n) && decide (n ≤ 9223372036854775807) && eI (M.get pb) then some (.string ⟨(dec n).toArray⟩, M) else none
 | _ => none
theorem hU {P : Program} {ρ : Ren} (L : LaysM.n171 P ρ) {fn : Func} {c : Code} (hf : P.funcs[ρ.f 171]? = some fn) (hb : fn.body = some c) (hn : (fn.name == "runtime.NumGoroutine") = false)
    {g pb : Nat} (hg : P.globalNamed "internal/strconv.uint64pow10" = some g) (hi : gix ay 0 g = some pb) (hz : gsz.getD pb 0 = 20) : aj P (ρ.f 171) (gl pb) := by
 refine cK hf hb hn fun args M v M' h => ?_
 unfold gl at h
 split at h
 ·rename_i n hargs
  cases h1 : decide (0 ≤ n) && decide (n < 100) with
  | true =>
   rw [h1, cond_true] at h
   injection h with h; injection h with h h'; subst h; subst h'
   simp only [Bool.and_eq_true, decide_eq_true_eq] at h1
   refine ⟨rfl, fun μ w cargs hG hR ha => ?_⟩
   obtain ⟨x, rfl, hx⟩ := bK ha hargs
   obtain rfl := hx.int
   obtain ⟨i, rfl⟩ : ∃ i : Nat, n = (i : Int) := ⟨n.toNat, by omega⟩
   refine (Any.strconv_Itoa_small { L with } i (by omega) w).mono fun e w' ⟨he, hw⟩ => ⟨_, he, fun sh => ?_, hw ▸ Below.refl _ _⟩
   rw [gO (by omega) (by omega), show Lib.itoa (i : Int) = Lib.decDigits i from by unfold Lib.itoa; rw [if_neg (by omega)]; rfl]
   exact VRel.mkString _
  | false =>
   rw [h1, cond_false] at h
   cases h2 : decide (-9223372036854775808 ≤ n) && decide (n ≤ 9223372036854775807) && eI (M.get pb) with
   | false => rw [h2] at h; cases h
   | true =>
    rw [h2, cond_true] at h
    injection h with h; injection h with h h'; subst h; subst h'
    simp only [Bool.and_eq_true, decide_eq_true_eq] at h2
    refine ⟨rfl, fun μ w cargs hG hR ha => ?_⟩
    obtain ⟨x, rfl, hx⟩ := bK ha hargs
    obtain rfl := hx.int
    refine (Any.strconv_Itoa L n h2.1.1 h2.1.2 w (iD hG hR hg hi hz h2.2)).mono fun e w' ⟨he, k, os, hw⟩ => ⟨_, he, fun sh => ?_, ?_⟩
    ·rw [gO h2.1.1 h2.1.2]; exact VRel.mkString _
    ·subst hw
     exact ⟨rfl, rfl, rfl, by simp [Sort.grow, World.drewN], fun k hk => by
      show (w.heap ++ os)[k]? = w.heap[k]?
      rw [Array.getElem?_append_left hk]⟩
 ·cases h
def f8 (sb rb : Nat) (nt : TypeId) : Array Value → Store → Option (Value × Store) := fun args M => match args.toList with
 | [.string s] => bif Nat.ble s.size 281474976710656 then
     match Lib.atoiAll s.data.toList with
     | .ok v => some (.tuple #[.int .i64 v, .nilIface], M)
     | .syntax => bif de (M.get sb) then some (.tuple #[.int .i64 0, .iface nt (.pointer (some ⟨0, 0, some 0⟩))], M) else none
     | .range => bif de (M.get rb) then some (.tuple #[.int .i64 (Lib.atoiSat s.data.toList), .iface nt (.pointer (some ⟨0, 0, some 0⟩))], M) else none
  else none
 | _ => none
theorem hF {P : Program} {ρ : Ren} (L : LaysC.n172 P ρ) {fn : Func} {c : Code} (hf : P.funcs[ρ.f 172]? = some fn) (hb : fn.body = some c) (hn : (fn.name == "runtime.NumGoroutine") = false)
    {sb rb : Nat} (hs : gix ay 0 (ρ.g 15) = some sb) (hr : gix ay 0 (ρ.g 16) = some rb) : aj P (ρ.f 172) (f8 sb rb (ρ.t 168)) := by
 refine cK hf hb hn fun args M v M' h => ?_
 unfold f8 at h
 split at h
 ·rename_i s hargs
  cases h1 : Nat.ble s.size 281474976710656 with
  | false => rw [h1] at h; cases h
  | true =>
   rw [h1, cond_true] at h
   have h1 := Nat.le_of_ble_eq_true h1
   have hnum : ∀ (sh : Shp) (μ : Map) (n : Int) (N : Nat), VRel P μ sh (.tuple #[.int .i64 n, .iface (ρ.t 168) (.pointer (some ⟨N, 0, none⟩))]) (.tuple #[.int .i64 n, .iface (ρ.t 168) (.pointer (some ⟨0, 0, some 0⟩))]) := fun sh μ n N =>
    LRel.cons (DRel.of_C (.of_B ⟨rfl, rfl⟩)) (LRel.cons (show DRel P μ sh (.iface _ _) (.iface _ _) from ⟨rfl, .inr (by simp)⟩) (LRel.nil _))
   split at h
   ·rename_i v hv
    injection h with h; injection h with h h'; subst h; subst h'
    refine ⟨rfl, fun μ w cargs hG hR ha => ?_⟩
    obtain ⟨x, rfl, hx⟩ := bK ha hargs
    obtain rfl := hx.string
    refine (Any.strconv_Atoi_ok L s (by omega) v hv w).mono fun e w' ⟨he, hw⟩ => ⟨_, he, fun sh => ?_, ?_⟩
    ·exact LRel.cons (DRel.of_C (.of_B ⟨rfl, rfl⟩)) (LRel.cons (show DRel P μ sh .nilIface .nilIface from trivial) (LRel.nil _))
    ·rcases hw with rfl | ⟨t, rfl⟩
     ·exact Below.refl _ _
     ·exact Lib.bytesWorld_below _ _ _
   ·rename_i hv
    cases h2 : de (M.get sb) with
    | false => rw [h2] at h; cases h
    | true =>
     rw [h2, cond_true] at h
     injection h with h; injection h with h h'; subst h; subst h'
     refine ⟨rfl, fun μ w cargs hG hR ha => ?_⟩
     obtain ⟨x, rfl, hx⟩ := bK ha hargs
     obtain rfl := hx.string
     obtain ⟨ev, hc, hev⟩ := fJ hG hR hs h2
     exact (Any.strconv_Atoi_syntax L s h1 hv ev w hc (.inr hev)).mono fun e w' ⟨N, he, _, _, hB⟩ => ⟨_, he, fun sh => hnum sh μ _ _, hB⟩
   ·rename_i hv
    cases h2 : de (M.get rb) with
    | false => rw [h2] at h; cases h
    | true =>
     rw [h2, cond_true] at h
     injection h with h; injection h with h h'; subst h; subst h'
     refine ⟨rfl, fun μ w cargs hG hR ha => ?_⟩
     obtain ⟨x, rfl, hx⟩ := bK ha hargs
     obtain rfl := hx.string
     obtain ⟨ev, hc, hev⟩ := fJ hG hR hr h2
     exact (Any.strconv_Atoi_range L s h1 hv ev w hc (.inr hev)).mono fun e w' ⟨N, he, _, _, hB⟩ => ⟨_, he, fun sh => hnum sh μ _ _, hB⟩
 ·cases h
def di : List Value → Option (List ByteArray)
 | [] => some []
 | .string s :: r => (di r).map (s :: ·)
 | _ => none
theorem c9 : ∀ {l : List Value} {xs : List ByteArray}, di l = some xs → l = xs.map Value.string
 | [], xs, h => by injection h with h; subst h; rfl
 | v :: r, xs, h => by
  cases v with
  | string s =>
   simp only [di, Option.map_eq_some_iff] at h
   obtain ⟨y, hy, rfl⟩ := h
   rw [c9 hy]; rfl
  | _ => cases h
def dg (sep : List UInt8) : List (List UInt8) → List UInt8
 | [] => []
 | [x] => x
 | x :: y :: r => x ++ sep ++ dg sep (y :: r)
theorem dC (sep : List UInt8) : ∀ xs, dg sep xs = Lib.join xs sep
 | [] => rfl
 | [x] => (Lib.join_one x sep).symm
 | x :: y :: r => by
  rw [dg, dC sep (y :: r)]
  simp [Lib.join, List.intercalate]
def gq : Array Value → Store → Option (Value × Store) := fun args M => match args.toList with
 | [.slice a n _, .string sep] => bif Nat.beq n 0 then some (.string ⟨#[]⟩, M) else match a with
  | some ⟨b, o, none⟩ => match (bg M b o n).bind di with
   | some xs => bif Nat.ble (dg sep.data.toList (xs.map (·.data.toList))).length 140737488355328 && Nat.ble n 140737488355328 then some (.string ⟨(dg sep.data.toList (xs.map (·.data.toList))).toArray⟩, M) else none
   | none => none
  | _ => none
 | _ => none
theorem hY {P : Program} {ρ : Ren} (L : Lays.n156 P ρ) (X : Builder.Extra P ρ) {fn : Func} {c : Code} (hf : P.funcs[ρ.f 156]? = some fn) (hb : fn.body = some c) (hn : (fn.name == "runtime.NumGoroutine") = false) : aj P (ρ.f 156) gq := by
 refine cK hf hb hn fun args M v M' h => ?_
 unfold gq at h
 split at h
 ·rename_i a n cap sep hargs
  have key : ∀ {μ : Map} {w : World} {cargs : Array Value}, LRel (VRel P μ w.shape?) cargs.toList args.toList → ∃ ac cc, cargs = #[.slice ac n cc, .string sep] ∧ SlRel P μ w.shape? ac n cc a n cap := by
   intro μ w cargs ha
   obtain ⟨x, y, rfl, hx, hy⟩ := iZ ha hargs
   obtain rfl := hy.string
   cases x <;> first
    | exact hx.elim
    | skip
   rename_i ac nc cc
   have hx : SlRel P μ w.shape? ac nc cc a n cap := hx
   obtain rfl := hx.len
   exact ⟨_, _, rfl, hx⟩
  cases h1 : Nat.beq n 0 with
  | true =>
   rw [h1, cond_true] at h
   injection h with h; injection h with h h'; subst h; subst h'
   obtain rfl := Nat.eq_of_beq_eq_true h1
   refine ⟨rfl, fun μ w cargs hG hR ha => ?_⟩
   obtain ⟨ac, cc, rfl, _⟩ := key ha
   refine (Any.strings_Join_none L X ac cc sep w).mono fun e w' ⟨he, hw⟩ => ⟨_, he, fun sh => ?_, hw ▸ Below.refl _ _⟩
   exact VRel.mkString _
  | false =>
   rw [h1, cond_false] at h
   split at h
   ·rename_i b o
    split at h
    ·rename_i xs hxs
     cases h2 : Nat.ble (dg sep.data.toList (xs.map (·.data.toList))).length 140737488355328 && Nat.ble n 140737488355328 with
     | false => rw [h2] at h; cases h
     | true =>
      rw [h2, cond_true] at h
      injection h with h; injection h with h h'; subst h; subst h'
      rw [Bool.and_eq_true] at h2
      have hnb := Nat.le_of_ble_eq_true h2.2
      obtain ⟨cs, hrow, htx⟩ := Option.bind_eq_some_iff.1 hxs
      have hcs := c9 htx
      refine ⟨rfl, fun μ w cargs hG hR ha => ?_⟩
      obtain ⟨ac, cc, rfl, hS⟩ := key ha
      have hn0 : 0 < n := by
       rcases n with _ | n
       ·simp at h1
       ·omega
      obtain ⟨y, rfl, ⟨_, l, hl, rfl⟩, _⟩ := hS.addr (.inl hn0) _ rfl
      obtain ⟨us, h3, h4, h5⟩ := bw hR hrow hl
      have hlen : xs.length = n := by
       have := h3.1; rw [hcs] at this; simp at this; omega
      have hcells : ∀ (j : Nat) x, xs[j]? = some x → w.cell? ⟨l.b, l.o + o + j, none⟩ = some (.string x) := by
       intro j x hx
       have hc : cs[j]? = some (.string x) := by rw [hcs, List.getElem?_map, hx]; rfl
       obtain ⟨u, hu, hr⟩ := h3.get hc
       rw [h5 j u hu, (VRel.of_D (.of_C hr)).string]
      have hcap : xs.length ≤ cc := by rw [hlen]; exact hS.le
      have hj := Any.strings_Join L X l.b (l.o + o) cc xs sep w hcells (hR.dom _ _ hl).2 (by omega) hcap (by rw [← dC]; exact Nat.le_of_ble_eq_true h2.1)
      rw [hlen] at hj
      refine hj.mono fun e w' ⟨he, hB⟩ => ⟨_, he, fun sh => ?_, hB⟩
      rw [dC]; exact VRel.mkString _
    ·cases h
   ·cases h
 ·cases h
end Go.Ab
