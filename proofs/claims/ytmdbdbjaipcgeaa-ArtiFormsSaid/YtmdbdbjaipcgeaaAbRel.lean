/- How the abstract machine's memory stands to the model's: relations, and the steps that keep them. -/
import Derived.Test.YtmdbdbjaipcgeaaAbDefs
set_option linter.unusedVariables false
set_option linter.unusedSimpArgs false
namespace Go.Ab
open Go.RowKit

/-! ## the store -/
theorem Store.get_push_eq (M : Store) (o : AObj) : (M.push o).get M.n = o := by simp [Store.push, Store.get]
theorem Store.get_push_ne (M : Store) (o : AObj) {i : Nat} (h : i ≠ M.n) : (M.push o).get i = M.get i := by
  by_cases h1 : i < M.n
  · have h2 : i < M.n + 1 := by omega
    have : M.n - i = (M.n - 1 - i) + 1 := by omega
    simp [Store.push, Store.get, h1, h2, this]
  · have h2 : ¬ i < M.n + 1 := by omega
    simp [Store.push, Store.get, h1, h2]
theorem Store.get_ge (M : Store) {i : Nat} (h : M.n ≤ i) : M.get i = none := by simp [Store.get, Nat.not_lt.2 h]
theorem Store.lt_of_get (M : Store) {i : Nat} {x} (h : M.get i = some x) : i < M.n := by
  rcases Nat.lt_or_ge i M.n with h1 | h1
  · exact h1
  · rw [M.get_ge h1] at h; cases h
theorem Store.get_set_eq (M : Store) {i : Nat} {x} (o : AObj) (h : M.get i = some x) : (M.set i o).get i = o := by
  have h1 := M.lt_of_get h
  simp only [Store.get, if_pos h1] at h
  simp only [Store.set, if_pos h1, Store.get]
  have : M.n - 1 - i < M.l.length := by
    rcases Nat.lt_or_ge (M.n - 1 - i) M.l.length with h2 | h2
    · exact h2
    · rw [List.getElem?_eq_none h2] at h; cases h
  simp [List.getElem?_set_self this]
theorem Store.get_set_ne (M : Store) {i j : Nat} (o : AObj) (h : i ≠ j) : (M.set i o).get j = M.get j := by
  unfold Store.set
  split
  · rename_i h1
    simp only [Store.get]
    split
    · rename_i h2
      rw [List.getElem?_set_ne (by omega)]
    · rfl
  · rfl
@[simp] theorem Store.push_n (M : Store) (o : AObj) : (M.push o).n = M.n + 1 := rfl
@[simp] theorem Store.push_log (M : Store) (o : AObj) : (M.push o).log = M.log := rfl
@[simp] theorem Store.set_n (M : Store) (i : Nat) (o : AObj) : (M.set i o).n = M.n := by unfold Store.set; split <;> rfl
theorem Store.set_log (M : Store) {i : Nat} {x} (o : AObj) (h : M.get i = some x) : (M.set i o).log = i :: M.log := by
  simp [Store.set, M.lt_of_get h]

/-! ## relations: the model's value on the left -/
structure Loc where
  b : Nat
  o : Nat
  own : Bool
abbrev Map := Nat → Option Loc
abbrev Shp := Nat → Option (TypeId × Nat)
def MLe (μ μ' : Map) : Prop := ∀ i l, μ i = some l → μ' i = some l
def SLe (s s' : Shp) : Prop := ∀ b x, s b = some x → s' b = some x
theorem MLe.refl (μ : Map) : MLe μ μ := fun _ _ h => h
theorem MLe.trans {a b c : Map} (h : MLe a b) (k : MLe b c) : MLe a c := fun i l e => k i l (h i l e)
theorem SLe.refl (s : Shp) : SLe s s := fun _ _ h => h
theorem SLe.trans {a b c : Shp} (h : SLe a b) (k : SLe b c) : SLe a c := fun i l e => k i l (h i l e)

def LRel (R : Value → Value → Prop) (us vs : List Value) : Prop :=
  us.length = vs.length ∧ ∀ (i : Nat) (u v : Value), us[i]? = some u → vs[i]? = some v → R u v
theorem LRel.mono {R S : Value → Value → Prop} {us vs : List Value} (h : LRel R us vs) (k : ∀ u v, R u v → S u v) : LRel S us vs :=
  ⟨h.1, fun i u v a b => k _ _ (h.2 i u v a b)⟩
theorem LRel.nil (R : Value → Value → Prop) : LRel R [] [] := ⟨rfl, fun i u v h => by simp at h⟩
theorem LRel.cons {R : Value → Value → Prop} {u v : Value} {us vs : List Value} (h : R u v) (k : LRel R us vs) : LRel R (u :: us) (v :: vs) :=
  ⟨by simp [k.1], fun i x y hx hy => by
    cases i with
    | zero => simp at hx hy; subst hx; subst hy; exact h
    | succ i => simp at hx hy; exact k.2 i x y hx hy⟩
theorem LRel.head {R : Value → Value → Prop} {u v : Value} {us vs : List Value} (h : LRel R (u :: us) (v :: vs)) : R u v := h.2 0 u v rfl rfl
theorem LRel.tail {R : Value → Value → Prop} {u v : Value} {us vs : List Value} (h : LRel R (u :: us) (v :: vs)) : LRel R us vs :=
  ⟨by have := h.1; simpa using this, fun i x y hx hy => h.2 (i + 1) x y (by simpa using hx) (by simpa using hy)⟩
theorem LRel.get {R : Value → Value → Prop} {us vs : List Value} (h : LRel R us vs) {i : Nat} {v : Value} (hv : vs[i]? = some v) : ∃ u, us[i]? = some u ∧ R u v := by
  have hi : i < us.length := by
    rw [h.1]; exact (List.getElem?_eq_some_iff.1 hv).1
  exact ⟨us[i], List.getElem?_eq_getElem hi, h.2 i _ v (List.getElem?_eq_getElem hi) hv⟩
theorem LRel.get' {R : Value → Value → Prop} {us vs : List Value} (h : LRel R us vs) {i : Nat} {u : Value} (hu : us[i]? = some u) : ∃ v, vs[i]? = some v ∧ R u v := by
  have hi : i < vs.length := by
    rw [← h.1]; exact (List.getElem?_eq_some_iff.1 hu).1
  exact ⟨vs[i], List.getElem?_eq_getElem hi, h.2 i u _ hu (List.getElem?_eq_getElem hi)⟩
theorem LRel.drop {R : Value → Value → Prop} {us vs : List Value} (h : LRel R us vs) (n : Nat) : LRel R (us.drop n) (vs.drop n) :=
  ⟨by simp [h.1], fun i u v hu hv => by simp at hu hv; exact h.2 _ u v hu hv⟩
theorem LRel.take {R : Value → Value → Prop} {us vs : List Value} (h : LRel R us vs) (n : Nat) : LRel R (us.take n) (vs.take n) :=
  ⟨by simp [h.1], fun i u v hu hv => by
    rw [List.getElem?_take] at hu hv
    split at hu
    · rename_i hi; rw [if_pos hi] at hv; exact h.2 _ u v hu hv
    · cases hu⟩
theorem LRel.append {R : Value → Value → Prop} {us vs us' vs' : List Value} (h : LRel R us vs) (k : LRel R us' vs') : LRel R (us ++ us') (vs ++ vs') :=
  ⟨by simp [h.1, k.1], fun i u v hu hv => by
    rw [List.getElem?_append] at hu hv
    have := h.1
    split at hu
    · rw [if_pos (by omega)] at hv; exact h.2 i u v hu hv
    · rw [if_neg (by omega)] at hv; rw [← h.1] at hv; exact k.2 _ u v hu hv⟩
theorem LRel.same {R : Value → Value → Prop} {vs : List Value} (h : ∀ v ∈ vs, R v v) : LRel R vs vs :=
  ⟨rfl, fun i u v hu hv => by rw [hu] at hv; injection hv with hv; subst hv; exact h u (List.mem_of_getElem? hu)⟩
theorem LRel.set {R : Value → Value → Prop} {us vs : List Value} (h : LRel R us vs) {u v : Value} (k : R u v) (n : Nat) : LRel R (us.set n u) (vs.set n v) :=
  ⟨by simp [h.1], fun i x y hx hy => by
    rw [List.getElem?_set] at hx hy
    split at hx
    · rename_i e
      rw [if_pos e] at hy
      split at hx
      · rename_i e2
        rw [if_pos (by rw [← h.1]; exact e2)] at hy
        injection hx with hx; injection hy with hy; subst hx; subst hy; exact k
      · cases hx
    · rename_i e; rw [if_neg e] at hy; exact h.2 i x y hx hy⟩

def AddrRel (μ : Map) (a a' : Addr) : Prop := a'.spot = none ∧ ∃ l, μ a'.block = some l ∧ a = ⟨l.b, l.o + a'.off, none⟩

structure SlRel (P : Program) (μ : Map) (sh : Shp) (ac : Option Addr) (nc cc : Nat) (aa : Option Addr) (na ca : Nat) : Prop where
  len : nc = na
  le : na ≤ cc
  max : cc ≤ maxLen
  full : ca = na → cc = na
  some_ : ac.isSome = aa.isSome
  nil : aa = none → na = 0 ∧ cc = 0
  addr : 0 < na ∨ ca = na + 1 → ∀ x, aa = some x → ∃ y, ac = some y ∧ AddrRel μ y x ∧
    ∀ l, μ x.block = some l → l.own = true → ∃ e N s, sh l.b = some (e, N) ∧ szOf P e = some s ∧ l.o + x.off + cc * s ≤ N

def PtRel (μ : Map) : Option Addr → Option Addr → Prop
  | none, none => True
  | some a, some b => AddrRel μ a b
  | _, _ => False
def MpRel (μ : Map) : Option Nat → Option Nat → Prop
  | none, none => True
  | some a, some b => ∃ l, μ b = some l ∧ l.b = a
  | _, _ => False

def BRel (P : Program) (μ : Map) (sh : Shp) : Value → Value → Prop
  | .bool a, .bool b => a = b
  | .int k a, .int j b => k = j ∧ a = b
  | .string a, .string b => a = b
  | .pointer a, .pointer b => PtRel μ a b
  | .slice a n c, .slice a' n' c' => SlRel P μ sh a n c a' n' c'
  | .map a, .map b => MpRel μ a b
  | .nilFunc, .nilFunc => True
  | .nilIface, .nilIface => True
  | _, _ => False

/-- The same function; or the rounds of one loop. -/
def FnRel (μ : Map) : Fn → Fn → Prop
  | .yield l, .yield l' => ∃ k, μ l' = some k ∧ k.b = l
  | .yield _, _ => False
  | f, g => f = g

def CRel (P : Program) (μ : Map) (sh : Shp) : Value → Value → Prop
  | .func f a c, .func g a' c' => FnRel μ f g ∧ LRel (BRel P μ sh) a.toList a'.toList ∧ LRel (BRel P μ sh) c.toList c'.toList
  | .iface t v, .iface u v' => t = u ∧ BRel P μ sh v v'
  | u, v => BRel P μ sh u v

def DRel (P : Program) (μ : Map) (sh : Shp) : Value → Value → Prop
  | .agg a, .agg b => LRel (CRel P μ sh) a.toList b.toList
  | u, v => CRel P μ sh u v

def VRel (P : Program) (μ : Map) (sh : Shp) : Value → Value → Prop
  | .tuple a, .tuple b => LRel (DRel P μ sh) a.toList b.toList
  | u, v => DRel P μ sh u v

theorem SlRel.mono {P : Program} {μ μ' : Map} {sh sh' : Shp} (hm : MLe μ μ') (hs : SLe sh sh') {a n c a' n' c'} (h : SlRel P μ sh a n c a' n' c') : SlRel P μ' sh' a n c a' n' c' :=
  ⟨h.len, h.le, h.max, h.full, h.some_, h.nil, fun k x e => by
      obtain ⟨y, hy, ⟨h1, l, h2, h3⟩, h4⟩ := h.addr k x e
      refine ⟨y, hy, ⟨h1, l, hm _ _ h2, h3⟩, fun l' hl' ho => ?_⟩
      have : l = l' := by have := hm _ _ h2; rw [hl'] at this; injection this with this; exact this.symm
      subst this
      obtain ⟨e, N, s, h5, h6⟩ := h4 l h2 ho
      exact ⟨e, N, s, hs _ _ h5, h6⟩⟩
theorem BRel.mono {P : Program} {μ μ' : Map} {sh sh' : Shp} (hm : MLe μ μ') (hs : SLe sh sh') {u v : Value} (h : BRel P μ sh u v) : BRel P μ' sh' u v := by
  cases u <;> cases v <;> try exact h
  case pointer.pointer a b =>
    cases a <;> cases b <;> try exact h
    obtain ⟨h1, l, h2, h3⟩ := h
    exact ⟨h1, l, hm _ _ h2, h3⟩
  case slice.slice => exact SlRel.mono hm hs h
  case map.map a b =>
    cases a <;> cases b <;> try exact h
    obtain ⟨l, h2, h3⟩ := h
    exact ⟨l, hm _ _ h2, h3⟩
theorem CRel.inv {P : Program} {μ : Map} {sh : Shp} {u v : Value} (h : CRel P μ sh u v) : BRel P μ sh u v ∨
    (∃ f a c g a' c', u = .func f a c ∧ v = .func g a' c' ∧ FnRel μ f g ∧ LRel (BRel P μ sh) a.toList a'.toList ∧ LRel (BRel P μ sh) c.toList c'.toList) ∨
    (∃ t x y, u = .iface t x ∧ v = .iface t y ∧ BRel P μ sh x y) := by
  cases u <;> cases v
  case func.func => obtain ⟨h0, h1, h2⟩ := h; exact .inr (.inl ⟨_, _, _, _, _, _, rfl, rfl, h0, h1, h2⟩)
  case iface.iface => obtain ⟨rfl, h1⟩ := h; exact .inr (.inr ⟨_, _, _, rfl, rfl, h1⟩)
  all_goals exact .inl h
theorem DRel.inv {P : Program} {μ : Map} {sh : Shp} {u v : Value} (h : DRel P μ sh u v) : CRel P μ sh u v ∨
    (∃ a b, u = .agg a ∧ v = .agg b ∧ LRel (CRel P μ sh) a.toList b.toList) := by
  cases u <;> cases v
  case agg.agg => exact .inr ⟨_, _, rfl, rfl, h⟩
  all_goals exact .inl h
theorem VRel.inv {P : Program} {μ : Map} {sh : Shp} {u v : Value} (h : VRel P μ sh u v) : DRel P μ sh u v ∨
    (∃ a b, u = .tuple a ∧ v = .tuple b ∧ LRel (DRel P μ sh) a.toList b.toList) := by
  cases u <;> cases v
  case tuple.tuple => exact .inr ⟨_, _, rfl, rfl, h⟩
  all_goals exact .inl h
theorem CRel.of_B {P : Program} {μ : Map} {sh : Shp} {u v : Value} (h : BRel P μ sh u v) : CRel P μ sh u v := by
  cases u <;> cases v <;> first | exact h | exact h.elim
theorem DRel.of_C {P : Program} {μ : Map} {sh : Shp} {u v : Value} (h : CRel P μ sh u v) : DRel P μ sh u v := by
  cases u <;> cases v <;> first | exact h | exact h.elim
theorem VRel.of_D {P : Program} {μ : Map} {sh : Shp} {u v : Value} (h : DRel P μ sh u v) : VRel P μ sh u v := by
  cases u <;> cases v <;> first | exact h | exact h.elim
theorem FnRel.mono {μ μ' : Map} (hm : MLe μ μ') {f g : Fn} (h : FnRel μ f g) : FnRel μ' f g := by
  cases f <;> cases g <;> first
    | exact h
    | exact h.elim
    | (obtain ⟨k, h1, h2⟩ := h; exact ⟨k, hm _ _ h1, h2⟩)
theorem CRel.mono {P : Program} {μ μ' : Map} {sh sh' : Shp} (hm : MLe μ μ') (hs : SLe sh sh') {u v : Value} (h : CRel P μ sh u v) : CRel P μ' sh' u v := by
  rcases h.inv with h | ⟨_, _, _, _, _, _, rfl, rfl, h0, h1, h2⟩ | ⟨_, _, _, rfl, rfl, h1⟩
  · exact .of_B (h.mono hm hs)
  · exact ⟨h0.mono hm, h1.mono fun _ _ => BRel.mono hm hs, h2.mono fun _ _ => BRel.mono hm hs⟩
  · exact ⟨rfl, h1.mono hm hs⟩
theorem DRel.mono {P : Program} {μ μ' : Map} {sh sh' : Shp} (hm : MLe μ μ') (hs : SLe sh sh') {u v : Value} (h : DRel P μ sh u v) : DRel P μ' sh' u v := by
  rcases h.inv with h | ⟨_, _, rfl, rfl, h1⟩
  · exact .of_C (h.mono hm hs)
  · exact LRel.mono h1 fun _ _ => CRel.mono hm hs
theorem VRel.mono {P : Program} {μ μ' : Map} {sh sh' : Shp} (hm : MLe μ μ') (hs : SLe sh sh') {u v : Value} (h : VRel P μ sh u v) : VRel P μ' sh' u v := by
  rcases h.inv with h | ⟨_, _, rfl, rfl, h1⟩
  · exact .of_D (h.mono hm hs)
  · exact LRel.mono h1 fun _ _ => DRel.mono hm hs

theorem VRel.of_B {P : Program} {μ : Map} {sh : Shp} {u v : Value} (h : BRel P μ sh u v) : VRel P μ sh u v := .of_D (.of_C (.of_B h))

/-- One cell on one side is one cell on the other. -/
theorem CRel.one {P : Program} {μ : Map} {sh : Shp} {u v : Value} (h : CRel P μ sh u v) : u.oneCell' = true ∧ v.oneCell' = true := by
  cases u <;> cases v <;> first | exact h.elim | exact ⟨rfl, rfl⟩
theorem VRel.C {P : Program} {μ : Map} {sh : Shp} {u v : Value} (h : VRel P μ sh u v) (h1 : v.oneCell' = true) : CRel P μ sh u v := by
  cases u <;> cases v <;> first | exact h | exact h.elim | (simp [Value.oneCell'] at h1)
theorem DRel.cells {P : Program} {μ : Map} {sh : Shp} {u v : Value} (h : DRel P μ sh u v) : LRel (CRel P μ sh) u.cells.toList v.cells.toList := by
  cases u <;> cases v <;> first
    | exact h
    | exact h.elim
    | exact LRel.cons h (LRel.nil _)
theorem VRel.cells {P : Program} {μ : Map} {sh : Shp} {u v : Value} (h : VRel P μ sh u v) (h1 : v.cells.all (·.oneCell') = true) : LRel (CRel P μ sh) u.cells.toList v.cells.toList := by
  cases u <;> cases v <;> first
    | exact h.elim
    | exact DRel.cells h
    | (simp [Value.cells, Value.oneCell'] at h1)
theorem VRel.cells_size {P : Program} {μ : Map} {sh : Shp} {u v : Value} (h : VRel P μ sh u v) : u.cells.size = v.cells.size := by
  rcases h.inv with h | ⟨_, _, rfl, rfl, h1⟩
  · have := h.cells.1
    simpa using this
  · rfl

theorem plain_B {P : Program} {μ : Map} {sh : Shp} {v : Value} (h : plainV v = true) : BRel P μ sh v v := by
  cases v <;> try (simp [plainV] at h; done)
  case bool => rfl
  case int => exact ⟨rfl, rfl⟩
  case string => rfl
  case pointer a => cases a <;> first | trivial | (simp [plainV] at h)
  case slice a n c =>
    cases a with
    | none =>
      simp [plainV] at h
      obtain ⟨rfl, rfl⟩ := h
      exact ⟨rfl, Nat.le_refl _, by simp [maxLen], fun _ => rfl, rfl, fun _ => ⟨rfl, rfl⟩, fun _ x hx => by cases hx⟩
    | some a => simp [plainV] at h
  case map a => cases a <;> first | trivial | (simp [plainV] at h)
  case nilFunc => trivial
  case nilIface => trivial
/-- What is plain is the same on both sides. -/
theorem plain_eq {P : Program} {μ : Map} {sh : Shp} {u v : Value} (h : VRel P μ sh u v) (hk : ∃ d, keyV d v = true) : u = v := by
  obtain ⟨d, hk⟩ := hk
  cases v <;> first | (cases d <;> simp [keyV] at hk; done) | skip
  all_goals
    cases u <;> first
      | exact h.elim
      | (obtain ⟨rfl, rfl⟩ := h; rfl)
      | (obtain rfl : _ = _ := h; rfl)
theorem plain_cells {P : Program} {μ : Map} {sh : Shp} {z : Value} (h : z.cells.all plainV = true) : LRel (CRel P μ sh) z.cells.toList z.cells.toList :=
  LRel.same fun v hv => .of_B (plain_B (by simp at h; obtain ⟨i, hi, rfl⟩ := List.getElem_of_mem hv; exact h i (by simpa using hi)))

/-! ## objects and worlds -/
def MRel (P : Program) (μ : Map) (sh : Shp) (en : List MapEntry) (es : List (Value × Value)) : Prop :=
  en.length = es.length ∧ ∀ (i : Nat) (x : MapEntry) (kv : Value × Value), en[i]? = some x → es[i]? = some kv → VRel P μ sh x.key kv.1 ∧ VRel P μ sh x.val kv.2 ∧ kv.2.cells.all (·.oneCell') = true

def jumpOf : AExit → Option Code
  | 0 => none
  | 1 => some .ret
  | n + 2 => some (.exit n)
/-- A loop's record. -/
structure RecRel (P : Program) (μ : Map) (sh : Shp) (q : Loop) (r : LRec) : Prop where
  st : q.state = r.st
  pe : q.pending = jumpOf r.pe
  params : q.params = r.params
  assign : q.assign = r.assign
  body : q.body = r.body
  size : ∀ i, r.tmps.has i = true ↔ i < q.tmps.size
  tmps : ∀ i : Nat, VRel P μ sh (q.tmps.getD i undef) (r.tmps.get i)
  ok : codeOk r.assign = true ∧ codeOk r.body = true
theorem RecRel.mono {P : Program} {μ μ' : Map} {sh sh' : Shp} (hm : MLe μ μ') (hs : SLe sh sh') {q : Loop} {r : LRec} (h : RecRel P μ sh q r) : RecRel P μ' sh' q r :=
  ⟨h.st, h.pe, h.params, h.assign, h.body, h.size, fun i => (h.tmps i).mono hm hs, h.ok⟩

/-- No cell is frozen. -/
def FrOk (n : Nat) (fr : Nat × Nat) : Prop := fr.1 = fr.2 ∨ n ≤ fr.1
theorem FrOk.cells {n : Nat} {fr : Nat × Nat} (h : FrOk n fr) : ∀ i, i < n → ¬ (fr.1 ≤ i ∧ i < fr.2) := fun i hi h' => by
  rcases h with h | h <;> omega

def ObjRel (P : Program) (μ : Map) (w : World) (l : Loc) : AObj → Prop
  | none => True
  | some (.inl (c, e, own)) => own = l.own ∧ ∃ cc ce fr, w.heap[l.b]? = some (.cells cc ce fr) ∧ LRel (CRel P μ w.shape?) ((cc.toList.drop l.o).take c.length) c ∧
      (own = true → ce = e ∧ l.o = 0 ∧ FrOk cc.size fr)
  | some (.inr (.inl es)) => l.own = true ∧ ∃ en clock, w.heap[l.b]? = some (.map en clock) ∧ MRel P μ w.shape? en.toList es
  | some (.inr (.inr none)) => l.own = true ∧ w.heap[l.b]? = some (.deferred (some []))
  | some (.inr (.inr (some r))) => l.own = true ∧ ∃ q : Loop, w.heap[l.b]? = some (.loop q) ∧ RecRel P μ w.shape? q r

structure Rel (P : Program) (μ : Map) (M : Store) (w : World) : Prop where
  dom : ∀ i l, μ i = some l → i < M.n ∧ l.b < w.heap.size
  obj : ∀ i l, μ i = some l → ObjRel P μ w l (M.get i)
  excl : ∀ i j l k, μ i = some l → μ j = some k → i ≠ j → M.get i ≠ none → M.get j ≠ none → l.own = true → l.b ≠ k.b

/-- One step, or many: what was not touched lies as it lay. -/
structure Step (μ : Map) (M : Store) (w : World) (μ' : Map) (M' : Store) (w' : World) : Prop where
  le : MLe μ μ'
  n : M.n ≤ M'.n
  size : w.heap.size ≤ w'.heap.size
  os : w'.os = w.os
  tape : w'.tape = w.tape
  output : w'.output = w.output
  shp : SLe w.shape? w'.shape?
  log : ∃ t, M'.log = t ++ M.log ∧
    (∀ b, b < w.heap.size → (∀ i ∈ t, ∀ l, μ i = some l → l.own = true → l.b ≠ b) → w'.heap[b]? = w.heap[b]?) ∧
    (∀ i l, μ' i = some l → μ i = some l ∨ (M.n ≤ i ∧ l.own = true ∧ (w.heap.size ≤ l.b ∨ ∃ j ∈ t, ∃ k, μ j = some k ∧ k.own = true ∧ k.b = l.b)))

theorem Step.refl (μ : Map) (M : Store) (w : World) : Step μ M w μ M w :=
  ⟨.refl _, Nat.le_refl _, Nat.le_refl _, rfl, rfl, rfl, .refl _, [], rfl, fun _ _ _ => rfl, fun _ _ h => .inl h⟩

theorem Step.trans {μ μ1 μ2 : Map} {M M1 M2 : Store} {w w1 w2 : World} (hd : ∀ i l, μ i = some l → i < M.n ∧ l.b < w.heap.size)
    (h : Step μ M w μ1 M1 w1) (k : Step μ1 M1 w1 μ2 M2 w2) : Step μ M w μ2 M2 w2 := by
  obtain ⟨t, ht, hf, hn⟩ := h.log
  obtain ⟨t', ht', hf', hn'⟩ := k.log
  refine ⟨h.le.trans k.le, Nat.le_trans h.n k.n, Nat.le_trans h.size k.size, k.os.trans h.os, k.tape.trans h.tape, k.output.trans h.output, h.shp.trans k.shp,
    t' ++ t, by rw [ht', ht, List.append_assoc], fun b hb hq => ?_, fun i l hi => ?_⟩
  · have h1 : w1.heap[b]? = w.heap[b]? := hf b hb fun i hi l hl ho => hq i (List.mem_append_right _ hi) l hl ho
    rw [← h1]
    refine hf' b (Nat.lt_of_lt_of_le hb h.size) fun i hi l hl ho hlb => ?_
    rcases hn i l hl with h2 | ⟨h2, h3, h4⟩
    · exact hq i (List.mem_append_left _ hi) l h2 ho hlb
    · rcases h4 with h4 | ⟨j, hj, q, hq1, hq2, hq3⟩
      · omega
      · exact hq j (List.mem_append_right _ hj) q hq1 hq2 (hq3.trans hlb)
  · rcases hn' i l hi with h2 | ⟨h2, h3, h4⟩
    · rcases hn i l h2 with h5 | ⟨h5, h6, h7⟩
      · exact .inl h5
      · refine .inr ⟨h5, h6, h7.imp id ?_⟩
        rintro ⟨j, hj, q, hq⟩
        exact ⟨j, List.mem_append_right _ hj, q, hq⟩
    · refine .inr ⟨Nat.le_trans h.n h2, h3, ?_⟩
      rcases h4 with h4 | ⟨j, hj, q, hq1, hq2, hq3⟩
      · exact .inl (Nat.le_trans h.size h4)
      · rcases hn j q hq1 with h5 | ⟨h5, h6, h7⟩
        · exact .inr ⟨j, List.mem_append_left _ hj, q, h5, hq2, hq3⟩
        · rcases h7 with h7 | ⟨j', hj', q', hq'1, hq'2, hq'3⟩
          · exact .inl (hq3 ▸ h7)
          · exact .inr ⟨j', List.mem_append_right _ hj', q', hq'1, hq'2, hq'3.trans hq3⟩

end Go.Ab
