/- A region whose order is drawn: whatever order is taken, what the abstract machine answers in the text's order is right. -/
import Derived.Test.YtmdbdbjaipcgeaaAbGrow
import Derived.OrdersIn
import Derived.LoopNIn
import Derived.TacticsIn
import Derived.RangeFuncLeaves
import Derived.RangeFuncRecord
import Derived.RangeFuncNested
set_option linter.unusedVariables false
set_option linter.unusedSimpArgs false
namespace Go.Ab
open Go.RowKit
open Classical

/-- Where everything is let in; in a round, or not. -/
def fen (ro : Option Nat) : Fence := { Fence.wide with round := ro }
theorem calls_fen {P : Program} {f : FuncId} {args : Array Value} {w : World} {R : Ending → World → Prop} (ro : Option Nat) (h : Calls P f args w R) : CallsIn (fen ro) 0 P f args w R := callsIn_wide.2 h
theorem fen_calls {P : Program} {f : FuncId} {args : Array Value} {w : World} {R : Ending → World → Prop} {ro : Option Nat} (h : CallsIn (fen ro) 0 P f args w R) : Calls P f args w R := callsIn_wide.1 h

/-- A function that the model enters, and whose answer is right. -/
def CallOk1 (P : Program) (f : FuncId) (g : Array Value → Store → Option (Value × Store)) : Prop :=
  ∀ args M v M', g args M = some (v, M') → ((∃ fn c, P.funcs[f]? = some fn ∧ fn.body = some c ∧ (fn.name == "runtime.NumGoroutine") = false) ∧ Grow M M') ∧
    ∀ μ w cargs, Rel P μ M w → LRel (VRel P μ w.shape?) cargs.toList args.toList → Calls P f cargs w (fun e w' => ∃ cv, e = .returned cv ∧ Made P μ M w v M' cv w')
/-- A loop's round, and what it hands back. -/
def RoundOk1 (P : Program) (l : Nat) (g : Array Value → Store → Option (Value × Store)) : Prop :=
  ∀ args M v M', g args M = some (v, M') → Grow M M' ∧
    ∀ μ w cargs k, μ l = some k → Rel P μ M w → LRel (VRel P μ w.shape?) cargs.toList args.toList → ∀ ro, ∃ f tmps x y, (Instr.yield k.b cargs).run P w = .ok (.round k.b f tmps x y) w ∧
      RoundIn (fen ro) 0 P k.b f tmps x y w (fun e w' => ∃ cv, e = .returned cv ∧ Made P μ M w v M' cv w')
structure CallOk (P : Program) (call : ACall) : Prop where
  fn : ∀ f, CallOk1 P f (call true f)
  round : ∀ l, RoundOk1 P l (call false l)
theorem CallOk.grow {P : Program} {call : ACall} (h : CallOk P call) {g : Bool} {f : Nat} {args : Array Value} {M M' : Store} {v : Value} (hc : call g f args M = some (v, M')) : Grow M M' := by
  cases g with
  | true => exact (h.fn f args M v M' hc).1.2
  | false => exact (h.round f args M v M' hc).1

theorem callFunc_run {P : Program} {f : FuncId} {fn : Func} {c : Code} (hf : P.funcs[f]? = some fn) (hb : fn.body = some c) (hn : (fn.name == "runtime.NumGoroutine") = false) (args : Array Value) (w : World) :
    (callFunc f args).run P w = .ok (.enter f args) w := by
  have hn' : ¬ fn.name = "runtime.NumGoroutine" := by simpa using hn
  simp [callFunc, hf, hb, hn']

theorem aop_nodefer {P : Program} {ρ : Operand → Value} {o : Op} {M : Store} {x : Sum Value (Bool × Nat × Array Value) × Store} (h : aop P ρ o M = some x) : ∀ c, o ≠ .defer c := by
  rintro c rfl
  simp [aop] at h

section
variable {P : Program} {o : Oper} {a : Act} {w w' : World} {K : Act → World → Prop} {Q : Exit → Act → World → Prop} {ro : Option Nat}
theorem wpIn_value (hd : ∀ c, o.op ≠ .defer c) {v : Value} (h : (execOp a.eval o).run P w = .ok (.value v) w') (hk : K (a.put o.dst v) w') : o.wpIn (fen ro) 0 P a w K Q :=
  ⟨fun _ _ => trivial, by rw [Oper.semAt_eq _ _ _ hd, h]; exact hk⟩
theorem wpIn_skipped (hd : ∀ c, o.op ≠ .defer c) (h : (execOp a.eval o).run P w = .ok .skip w') (hk : K (a.put o.dst undef) w') : o.wpIn (fen ro) 0 P a w K Q :=
  ⟨fun _ _ => trivial, by rw [Oper.semAt_eq _ _ _ hd, h]; exact hk⟩
/-- A call that the abstract machine makes. -/
theorem wpIn_called {call : ACall} (hc : CallOk P call) (hd : ∀ c, o.op ≠ .defer c) {μ : Map} {M M1 M2 : Store} (hR : Rel P μ M w) {g : Bool} {f : Nat} {args : Array Value} (hn : NRel P μ M w (.inr (g, f, args)) M1 o a) {v : Value} (h : call g f args M1 = some (v, M2))
    (hk : ∀ cv w', Made P μ M w v M2 cv w' → K (a.put o.dst cv) w') : o.wpIn (fen ro) 0 P a w K Q := by
  refine ⟨fun _ _ => trivial, ?_⟩
  rw [Oper.semAt_eq _ _ _ hd]
  cases g with
  | true =>
    obtain ⟨rfl, cargs, hrun, hargs⟩ := hn
    obtain ⟨⟨⟨fn, c, hf, hb, hn⟩, _⟩, hcc⟩ := hc.fn f args _ v M2 h
    rw [hrun, callFunc_run hf hb hn]
    refine ⟨fun h => by simp [fen, Fence.wide] at h, (calls_fen ro (hcc μ w cargs hR hargs)).mono fun e w' he => ?_⟩
    obtain ⟨cv, rfl, hM⟩ := he
    exact hk cv w' hM
  | false =>
    obtain ⟨rfl, k, cargs, hl, hrun, hargs⟩ := hn
    obtain ⟨_, hcc⟩ := hc.round f args _ v M2 h
    obtain ⟨fr, tmps, x, y, hy, hr⟩ := hcc μ w cargs k hl hR hargs ro
    rw [hrun, hy]
    refine ⟨fun h => by simp [fen, Fence.wide] at h, hr.mono fun e w' he => ?_⟩
    obtain ⟨cv, rfl, hM⟩ := he
    exact hk cv w' hM
end

theorem getD_put (a : Act) (d : Option Tmp) (v : Value) (i : Nat) : (a.put d v).tmps.getD i undef = if d = some i ∧ i < a.tmps.size then v else a.tmps.getD i undef := by
  cases d with
  | none => simp [Act.put]
  | some d =>
    simp only [Act.put]
    by_cases hi : i < a.tmps.size
    · by_cases hd : d = i
      · subst hd; simp [Array.getD, hi]
      · simp [Array.getD, hi, hd]
    · simp [Array.getD, hi]
@[simp] theorem put_size (a : Act) (d : Option Tmp) (v : Value) : (a.put d v).tmps.size = a.tmps.size := by cases d <;> simp [Act.put]
@[simp] theorem put_defers (a : Act) (d : Option Tmp) (v : Value) : (a.put d v).defers = a.defers := by cases d <;> rfl

theorem aget_put (a : AAct) (d : Option Tmp) (v : Value) (i : Nat) : (a.put d v).get i = if d = some i ∧ a.t.has i = true then v else a.get i := by
  cases d with
  | none => simp [AAct.put]
  | some d =>
    simp only [AAct.put, AAct.get, PT.get_put, Option.some.injEq]
@[simp] theorem ahas_put (a : AAct) (d : Option Tmp) (v : Value) (i : Nat) : (a.put d v).t.has i = a.t.has i := by cases d <;> simp [AAct.put, PT.has_put]
@[simp] theorem adefers_put (a : AAct) (d : Option Tmp) (v : Value) : (a.put d v).defers = a.defers := by cases d <;> rfl

theorem yielded_at {P : Program} {μ : Map} {sh : Shp} {ca : Act} {a : AAct} (hs : ∀ i, a.t.has i = true ↔ i < ca.tmps.size) (ops : Array Oper) (j : Nat)
    (h : ∀ d, (ops[j]?).bind (·.dst) = some d → VRel P μ sh (ca.tmps.getD d undef) (a.get d)) : yielded ops ca.tmps j = a.yielded ops j := by
  unfold yielded AAct.yielded
  cases hd : (ops[j]?).bind (·.dst) with
  | none => rfl
  | some d =>
    simp only [Option.bind_some]
    have ht := h d hd
    simp only [Array.getD, AAct.get] at ht
    by_cases hlt : d < ca.tmps.size
    · rw [dif_pos hlt] at ht
      rw [Array.getElem?_eq_getElem hlt]
      simp only [Array.getInternal_eq_getElem] at ht
      generalize ca.tmps[d] = u at ht
      generalize a.t.get d = v at ht
      cases u <;> cases v <;> first
        | rfl
        | exact ht.elim
        | (obtain rfl : _ = _ := ht; rfl)
    · have hn : a.t.has d = false := by
        cases hb : a.t.has d with
        | false => rfl
        | true => exact absurd ((hs d).1 hb) hlt
      rw [Array.getElem?_eq_none (xs := ca.tmps) (Nat.le_of_not_lt hlt), PT.get_none _ _ hn]
      rfl

theorem wanted_at {P : Program} {μ : Map} {sh : Shp} {ca : Act} {a : AAct} (hs : ∀ i, a.t.has i = true ↔ i < ca.tmps.size) (ops : Array Oper) (o : Oper)
    (h : ∀ d, d ∈ o.looksAt ops → VRel P μ sh (ca.tmps.getD d undef) (a.get d)) : Region.wanted o (yielded ops ca.tmps) = Region.wanted o (AAct.yielded ops a) := by
  unfold Region.wanted
  cases hg : o.guard with
  | none => rfl
  | some gw =>
    obtain ⟨g, want⟩ := gw
    simp only [yielded_at hs ops g fun d hd => h d (by simp [Oper.looksAt, hg, hd])]

theorem eval_at {P : Program} {μ : Map} {sh : Shp} {a : AAct} {ca : Act} {ops : Array Oper} {o : Oper} (ho : operOk o = true) (h : ∀ d, d ∈ o.looksAt ops → VRel P μ sh (ca.tmps.getD d undef) (a.get d)) :
    ∀ x ∈ o.op.operands.toList, VRel P μ sh (ca.eval x) (a.eval x) := by
  intro x hx
  have hc : constOk x = true := Array.all_eq_true_iff_forall_mem.1 ho x (by simpa using hx)
  cases x with
  | tmp t => exact h t (List.mem_append_left _ (List.mem_filterMap.2 ⟨.tmp t, hx, rfl⟩))
  | const v => exact eval_rel (a := ⟨.fill 0 0, []⟩) (ca := ⟨#[], []⟩) (fun i => by rw [AAct.get, PT.get_fill]; exact VRel.undef) hc
  | func f => exact ⟨rfl, LRel.nil _, LRel.nil _⟩
  | global g => cases hc

/-! ## the text's order -/
theorem astep_grow {P : Program} {call : ACall} (hc : CallOk P call) {ops : Array Oper} {o : Oper} {a a' : AAct} {M M' : Store} (h : astep P call ops o a M = some (a', M')) : Grow M M' := by
  unfold astep at h
  split at h
  · split at h
    · rename_i v M1 h1
      injection h with h; injection h with h h'; subst h'
      exact aop_grow h1
    · rename_i g f args M1 h1
      split at h
      · rename_i v M2 h2
        injection h with h; injection h with h h'; subst h'
        exact (aop_grow h1).trans (hc.grow h2)
      · cases h
    · cases h
  · injection h with h; injection h with h h'; subst h'; exact .refl M

theorem astep_act {P : Program} {call : ACall} {ops : Array Oper} {o : Oper} {a a' : AAct} {M M' : Store} (h : astep P call ops o a M = some (a', M')) : ∃ v, a' = a.put o.dst v := by
  unfold astep at h
  split at h
  · split at h
    · injection h with h; injection h with h h'; exact ⟨_, h.symm⟩
    · split at h
      · injection h with h; injection h with h h'; exact ⟨_, h.symm⟩
      · cases h
    · cases h
  · injection h with h; injection h with h h'; exact ⟨_, h.symm⟩

noncomputable def Map.on (μ : Map) (p : Nat → Prop) : Map := fun b => if p b then μ b else none
theorem Map.on_le (μ : Map) (p : Nat → Prop) : MLe (μ.on p) μ := fun b l h => by
  unfold Map.on at h; split at h
  · exact h
  · cases h
theorem Map.on_sub {μ μ' : Map} {p q : Nat → Prop} (hm : MLe μ μ') (h : ∀ b, p b → q b) : MLe (μ.on p) (μ'.on q) := fun b l hb => by
  unfold Map.on at hb ⊢
  split at hb
  · rename_i hp; rw [if_pos (h b hp)]; exact hm b l hb
  · cases hb
theorem Map.on_some {μ : Map} {p : Nat → Prop} {b : Nat} {l : Loc} (h : μ.on p b = some l) : p b ∧ μ b = some l := by
  unfold Map.on at h; split at h
  · rename_i hp; exact ⟨hp, h⟩
  · cases h
theorem Map.on_eq {μ : Map} {p : Nat → Prop} {b : Nat} (h : p b) : μ.on p b = μ b := if_pos h

section
variable (ops : Array Oper) (S : Nat → AAct × Store) (T : Nat → List Nat) (B : Nat → Nat → Prop)

def New (i b : Nat) : Prop := (S i).2.n ≤ b ∧ b < (S (i + 1)).2.n
def Tch (i b : Nat) : Prop := (b ∈ T i ∧ b < (S i).2.n) ∨ New S i b
def Acc (i b : Nat) : Prop := b < (S 0).2.n ∨ ∃ j, B i j ∧ New S j b
def AccS : Option Nat → Nat → Prop
  | none, b => b < (S 0).2.n
  | some j, b => Acc S B j b ∨ New S j b
def Rd (i b : Nat) : Prop := Acc S B i b ∧ ∀ o, ops[i]? = some o → lightO o.op = true → b ∈ readIds (S i).1.eval o.op

structure TraceOk (P : Program) (call : ACall) : Prop where
  callok : CallOk P call
  ok : ∀ (i : Nat) (o : Oper), ops[i]? = some o → operOk o = true
  step : ∀ (i : Nat) (o : Oper), ops[i]? = some o → astep P call ops o (S i).1 (S i).2 = some (S (i + 1))
  log : ∀ i, i < ops.size → (S (i + 1)).2.log = T i ++ (S i).2.log
  edge : ∀ (i : Nat) (o : Oper), ops[i]? = some o → ∀ j, B i j ↔ ∃ e ∈ o.after, Region.binds .any e = true ∧ (j = e.on ∨ B e.on j)
  edgeLt : ∀ (i : Nat) (o : Oper), ops[i]? = some o → ∀ e ∈ o.after, Region.binds .any e = true → e.on < i
  ssa : ∀ (i : Nat) (o : Oper) (j : Nat) (q : Oper) (d : Tmp), ops[i]? = some o → ops[j]? = some q → q.dst = some d → (d ∈ o.looksAt ops → B i j ∨ B j i) ∧ (i ≠ j → o.dst ≠ some d)
  cf : ∀ i b, i < ops.size → b ∈ T i → b < (S i).2.n → (S i).2.get b ≠ none ∧ Acc S B i b ∧ ∀ k, k < ops.size → k ≠ i → Rd ops S B k b → B i k ∨ B k i
end

section
variable {P : Program} {call : ACall} {ops : Array Oper} {S : Nat → AAct × Store} {T : Nat → List Nat} {B : Nat → Nat → Prop}

theorem get_lt {i : Nat} (h : i < ops.size) : ∃ o, ops[i]? = some o := ⟨_, Array.getElem?_eq_getElem h⟩
theorem lt_of_get {i : Nat} {o : Oper} (h : ops[i]? = some o) : i < ops.size := (Array.getElem?_eq_some_iff.1 h).1

theorem TraceOk.lt (H : TraceOk ops S T B P call) : ∀ i j, i < ops.size → B i j → j < i := by
  intro i
  induction i using Nat.strongRecOn with
  | ind i ih =>
    intro j hi hb
    obtain ⟨o, ho⟩ := get_lt hi
    obtain ⟨e, he, hbi, h⟩ := (H.edge i o ho j).1 hb
    have h1 := H.edgeLt i o ho e he hbi
    rcases h with rfl | h
    · exact h1
    · exact Nat.lt_trans (ih e.on h1 j (Nat.lt_trans h1 hi) h) h1

theorem TraceOk.tr (H : TraceOk ops S T B P call) : ∀ i j k, i < ops.size → B i j → B j k → B i k := by
  intro i
  induction i using Nat.strongRecOn with
  | ind i ih =>
    intro j k hi hb hk
    obtain ⟨o, ho⟩ := get_lt hi
    obtain ⟨e, he, hbi, h⟩ := (H.edge i o ho j).1 hb
    have h1 := H.edgeLt i o ho e he hbi
    rcases h with rfl | h
    · exact (H.edge i o ho k).2 ⟨e, he, hbi, .inr hk⟩
    · exact (H.edge i o ho k).2 ⟨e, he, hbi, .inr (ih e.on h1 j k (Nat.lt_trans h1 hi) h hk)⟩

theorem TraceOk.grow (H : TraceOk ops S T B P call) {i : Nat} (hi : i < ops.size) : (S i).2.n ≤ (S (i + 1)).2.n ∧ ∀ b, b < (S i).2.n → b ∉ T i → (S (i + 1)).2.get b = (S i).2.get b := by
  obtain ⟨o, ho⟩ := get_lt hi
  obtain ⟨h1, t, h2, h3⟩ := astep_grow H.callok (a := (S i).1) (M := (S i).2) (a' := (S (i + 1)).1) (M' := (S (i + 1)).2) (H.step i o ho)
  have : t = T i := by
    rw [H.log i hi] at h2
    exact (List.append_cancel_right h2).symm
  subst this
  exact ⟨h1, h3⟩

theorem TraceOk.mono (H : TraceOk ops S T B P call) {i j : Nat} (hij : i ≤ j) (hj : j ≤ ops.size) : (S i).2.n ≤ (S j).2.n := by
  induction j with
  | zero => rw [Nat.le_zero.1 hij]; exact Nat.le_refl _
  | succ j ih =>
    rcases Nat.lt_or_ge i (j + 1) with h | h
    · exact Nat.le_trans (ih (by omega) (by omega)) (H.grow (by omega)).1
    · rw [Nat.le_antisymm hij h]; exact Nat.le_refl _

theorem TraceOk.stay (H : TraceOk ops S T B P call) {j i b : Nat} (hij : j ≤ i) (hi : i ≤ ops.size) (hb : b < (S j).2.n) (hn : ∀ k, j ≤ k → k < i → b ∉ T k) : (S i).2.get b = (S j).2.get b := by
  induction i with
  | zero => rw [Nat.le_zero.1 hij]
  | succ i ih =>
    rcases Nat.lt_or_ge j (i + 1) with h | h
    · rw [(H.grow (by omega)).2 b (Nat.lt_of_lt_of_le hb (H.mono (by omega) (by omega))) (hn i (by omega) (by omega))]
      exact ih (by omega) (by omega) fun k h1 h2 => hn k h1 (by omega)
    · rw [Nat.le_antisymm hij h]

theorem TraceOk.uniq (H : TraceOk ops S T B P call) {j k b : Nat} (hj : j < ops.size) (hk : k < ops.size) (h1 : New S j b) (h2 : New S k b) : j = k := by
  rcases Nat.lt_trichotomy j k with h | h | h
  · have := H.mono (i := j + 1) (j := k) h (by omega)
    have := h1.2; have := h2.1; omega
  · exact h
  · have := H.mono (i := k + 1) (j := j) h (by omega)
    have := h2.2; have := h1.1; omega

/-- What is not written in between is as it was. -/
theorem TraceOk.tmp (H : TraceOk ops S T B P call) {j i t : Nat} (hij : j ≤ i) (hi : i ≤ ops.size) (hn : ∀ (k : Nat) (q : Oper), j ≤ k → k < i → ops[k]? = some q → q.dst ≠ some t) : (S i).1.get t = (S j).1.get t := by
  induction i with
  | zero => rw [Nat.le_zero.1 hij]
  | succ i ih =>
    rcases Nat.lt_or_ge j (i + 1) with h | h
    · obtain ⟨o, ho⟩ := get_lt (ops := ops) (show i < ops.size by omega)
      obtain ⟨v, hv⟩ := astep_act (a' := (S (i + 1)).1) (M' := (S (i + 1)).2) (H.step i o ho)
      rw [hv, aget_put, if_neg fun h => hn i o (by omega) (by omega) ho h.1]
      exact ih (by omega) (by omega) fun k q h1 h2 => hn k q h1 (by omega)
    · rw [Nat.le_antisymm hij h]
theorem TraceOk.size (H : TraceOk ops S T B P call) {i : Nat} (hi : i ≤ ops.size) : ∀ t, (S i).1.t.has t = (S 0).1.t.has t := by
  induction i with
  | zero => exact fun _ => rfl
  | succ i ih =>
    obtain ⟨o, ho⟩ := get_lt (ops := ops) (show i < ops.size by omega)
    obtain ⟨v, hv⟩ := astep_act (a' := (S (i + 1)).1) (M' := (S (i + 1)).2) (H.step i o ho)
    intro t; rw [hv, ahas_put]; exact ih (by omega) t

/-! ## what holds when some were done -/
def Cur (S : Nat → AAct × Store) (T : Nat → List Nat) (B : Nat → Nat → Prop) (n : Nat) (E : Nat → Prop) (b : Nat) (o : AObj) : Option Nat → Prop
  | none => b < (S 0).2.n ∧ o = (S 0).2.get b ∧ ∀ j, j < n → E j → b ∉ T j
  | some j => j < n ∧ E j ∧ Tch S T j b ∧ o = (S (j + 1)).2.get b ∧ ∀ k, k < n → E k → Tch S T k b → k = j ∨ B j k

structure Inv (P : Program) (ops : Array Oper) (S : Nat → AAct × Store) (T : Nat → List Nat) (B : Nat → Nat → Prop) (df : List Deferred) (μ0 : Map) (w0 : World) (E : Nat → Prop) (μ : Map) (w : World) (ca : Act) : Prop where
  size : ∀ t, (S 0).1.t.has t = true ↔ t < ca.tmps.size
  defers : ca.defers = df
  dom : ∀ b l, μ b = some l → (b < (S 0).2.n ∨ ∃ j, j < ops.size ∧ E j ∧ New S j b) ∧ l.b < w.heap.size
  obj : ∀ b l, μ b = some l → ∃ o s, Cur S T B ops.size E b o s ∧ ObjRel P (μ.on (AccS S B s)) w l o
  excl : ∀ b b' l l', μ b = some l → μ b' = some l' → b ≠ b' → ∀ o s o' s', Cur S T B ops.size E b o s → Cur S T B ops.size E b' o' s' → o ≠ none → o' ≠ none → l.own = true → l.b ≠ l'.b
  old : ∀ t, (∀ (j : Nat) (q : Oper), ops[j]? = some q → E j → q.dst ≠ some t) → VRel P (μ.on (AccS S B none)) w.shape? (ca.tmps.getD t undef) ((S 0).1.get t)
  done : ∀ (j : Nat) (q : Oper) (t : Tmp), ops[j]? = some q → E j → q.dst = some t → VRel P (μ.on (AccS S B (some j))) w.shape? (ca.tmps.getD t undef) ((S (j + 1)).1.get t)
  le : MLe μ0 μ
  hsize : w0.heap.size ≤ w.heap.size
  os : w.os = w0.os
  tape : w.tape = w0.tape
  output : w.output = w0.output
  shp : SLe w0.shape? w.shape?
  frame : ∀ b, b < w0.heap.size → (∀ j, j < ops.size → E j → ∀ x ∈ T j, ∀ l, μ0 x = some l → l.own = true → l.b ≠ b) → w.heap[b]? = w0.heap[b]?
  fresh : ∀ i l, μ i = some l → μ0 i = some l ∨ ((S 0).2.n ≤ i ∧ l.own = true ∧ (w0.heap.size ≤ l.b ∨ ∃ j, j < ops.size ∧ E j ∧ ∃ x ∈ T j, ∃ k, μ0 x = some k ∧ k.own = true ∧ k.b = l.b))
theorem TraceOk.cur (H : TraceOk ops S T B P call) {E : Nat → Prop} (hE : ∀ j k, j < ops.size → E j → B j k → E k) {i : Nat} (hin : i < ops.size) (hi : ¬ E i) (hr : ∀ k, B i k → E k)
    {b : Nat} (hrd : Rd ops S B i b) {o : AObj} {s : Option Nat} (hc : Cur S T B ops.size E b o s) : o = (S i).2.get b ∧ ∀ b', AccS S B s b' → Acc S B i b' := by
  cases s with
  | none =>
    obtain ⟨h1, h2, h3⟩ := hc
    refine ⟨?_, fun b' h => .inl h⟩
    rw [h2]
    refine (H.stay (Nat.zero_le i) (Nat.le_of_lt hin) h1 fun k _ hk hb => ?_).symm
    have hkn : k < ops.size := Nat.lt_trans hk hin
    have hbk : b < (S k).2.n := Nat.lt_of_lt_of_le h1 (H.mono (Nat.zero_le k) (Nat.le_of_lt hkn))
    rcases (H.cf k b hkn hb hbk).2.2 i hin (Nat.ne_of_gt hk) hrd with h | h
    · have := H.lt k i hkn h; omega
    · exact h3 k hkn (hr k h) hb
  | some j =>
    obtain ⟨hjn, hEj, ht, h2, h3⟩ := hc
    have hij : B i j := by
      rcases ht with ⟨h4, h5⟩ | h4
      · rcases (H.cf j b hjn h4 h5).2.2 i hin (fun e => hi (e ▸ hEj)) hrd with h | h
        · exact absurd (hE j i hjn hEj h) hi
        · exact h
      · rcases hrd.1 with h | ⟨j', h5, h6⟩
        · have := H.mono (Nat.zero_le j) (Nat.le_of_lt hjn)
          have := h4.1; omega
        · have hj' := H.lt i j' hin h5
          rw [H.uniq hjn (Nat.lt_trans hj' hin) h4 h6]; exact h5
    have hji := H.lt i j hin hij
    have hbj : b < (S (j + 1)).2.n := by
      rcases ht with ⟨h4, h5⟩ | h4
      · exact Nat.lt_of_lt_of_le h5 (H.mono (Nat.le_succ j) hjn)
      · exact h4.2
    refine ⟨?_, fun b' h => ?_⟩
    · rw [h2]
      refine (H.stay hji (Nat.le_of_lt hin) hbj fun k hk1 hk hb => ?_).symm
      have hkn : k < ops.size := Nat.lt_trans hk hin
      have hbk : b < (S k).2.n := Nat.lt_of_lt_of_le hbj (H.mono hk1 (Nat.le_of_lt hkn))
      rcases (H.cf k b hkn hb hbk).2.2 i hin (Nat.ne_of_gt hk) hrd with h | h
      · have := H.lt k i hkn h; omega
      · rcases h3 k hkn (hr k h) (.inl ⟨hb, hbk⟩) with h | h
        · omega
        · have := H.lt j k hjn h; omega
    · rcases h with (h | ⟨j2, h4, h5⟩) | h
      · exact .inl h
      · exact .inr ⟨j2, H.tr i j j2 hin hij h4, h5⟩
      · exact .inr ⟨j, hij, h⟩

theorem ObjRel.keep {P : Program} {μ μ' : Map} {w w' : World} {l : Loc} {o : AObj} (h : ObjRel P μ w l o) (hm : MLe μ μ') (hs : SLe w.shape? w'.shape?) (hb : o ≠ none → w'.heap[l.b]? = w.heap[l.b]?) : ObjRel P μ' w' l o := by
  cases o with
  | none => trivial
  | some o =>
    cases o with
    | inl x =>
      obtain ⟨c, e, own⟩ := x
      obtain ⟨h1, cc, ce, fr, h2, h3, h4⟩ := h
      exact ⟨h1, cc, ce, fr, (hb (by simp)).trans h2, h3.mono fun _ _ => CRel.mono hm hs, h4⟩
    | inr x => exact ObjRel.mono hm hs (hb (by simp)) h

theorem TraceOk.accLt (H : TraceOk ops S T B P call) {i b : Nat} (hin : i < ops.size) (h : Acc S B i b) : b < (S i).2.n := by
  rcases h with h | ⟨j, h1, h2⟩
  · exact Nat.lt_of_lt_of_le h (H.mono (Nat.zero_le i) (Nat.le_of_lt hin))
  · exact Nat.lt_of_lt_of_le h2.2 (H.mono (H.lt i j hin h1) (Nat.le_of_lt hin))

/-- What the operation needs of memory, it finds. -/
theorem Inv.rel (H : TraceOk ops S T B P call) {E : Nat → Prop} (hE : ∀ j k, j < ops.size → E j → B j k → E k) {i : Nat} (hin : i < ops.size) (hi : ¬ E i) (hr : ∀ k, B i k → E k)
    {df : List Deferred} {μ0 μ : Map} {w0 w : World} {ca : Act} (I : Inv P ops S T B df μ0 w0 E μ w ca) {M0 : Store} (hn : M0.n = (S i).2.n)
    (hg : ∀ b, Acc S B i b → M0.get b ≠ none → M0.get b = (S i).2.get b ∧ Rd ops S B i b) : Rel P (μ.on (Acc S B i)) M0 w where
  dom b l h := by
    obtain ⟨h1, h2⟩ := Map.on_some h
    exact ⟨by rw [hn]; exact H.accLt hin h1, (I.dom b l h2).2⟩
  obj b l h := by
    obtain ⟨h1, h2⟩ := Map.on_some h
    by_cases hz : M0.get b = none
    · rw [hz]; trivial
    · obtain ⟨h3, h4⟩ := hg b h1 hz
      obtain ⟨o, s, h5, h6⟩ := I.obj b l h2
      obtain ⟨h7, h8⟩ := H.cur hE hin hi hr h4 h5
      rw [h3, ← h7]
      exact h6.keep (Map.on_sub (.refl _) h8) (.refl _) fun _ => rfl
  excl b b' l l' h h' hne hz hz' ho := by
    obtain ⟨h1, h2⟩ := Map.on_some h
    obtain ⟨h1', h2'⟩ := Map.on_some h'
    obtain ⟨h3, h4⟩ := hg b h1 hz
    obtain ⟨h3', h4'⟩ := hg b' h1' hz'
    obtain ⟨o, s, h5, h6⟩ := I.obj b l h2
    obtain ⟨o', s', h5', h6'⟩ := I.obj b' l' h2'
    have h7 := (H.cur hE hin hi hr h4 h5).1
    have h7' := (H.cur hE hin hi hr h4' h5').1
    exact I.excl b b' l l' h2 h2' hne o s o' s' h5 h5' (by rw [h7, ← h3]; exact hz) (by rw [h7', ← h3']; exact hz') ho

theorem Inv.look (H : TraceOk ops S T B P call) {E : Nat → Prop} (hE : ∀ j k, j < ops.size → E j → B j k → E k) {i : Nat} {o : Oper} (ho : ops[i]? = some o) (hi : ¬ E i) (hr : ∀ k, B i k → E k)
    {df : List Deferred} {μ0 μ : Map} {w0 w : World} {ca : Act} (I : Inv P ops S T B df μ0 w0 E μ w ca) : ∀ d, d ∈ o.looksAt ops → VRel P (μ.on (Acc S B i)) w.shape? (ca.tmps.getD d undef) ((S i).1.get d) := by
  intro d hd
  have hin := lt_of_get ho
  by_cases h : ∃ (j : Nat) (q : Oper), ops[j]? = some q ∧ q.dst = some d
  · obtain ⟨j, q, hq, hqd⟩ := h
    have old : B j i → VRel P (μ.on (Acc S B i)) w.shape? (ca.tmps.getD d undef) ((S i).1.get d) := fun hji => by
      have hlt := H.lt j i (lt_of_get hq) hji
      have huniq : ∀ (k : Nat) (q' : Oper), ops[k]? = some q' → q'.dst = some d → k = j := fun k q' hq' hd' => by
        by_cases e : k = j
        · exact e
        · exact absurd hd' ((H.ssa k q' j q d hq' hq hqd).2 e)
      rw [H.tmp (Nat.zero_le i) (Nat.le_of_lt hin) fun k q' _ hk hq' hd' => by have := huniq k q' hq' hd'; omega]
      exact (I.old d fun k q' hq' hk hd' => hi (hE j i (lt_of_get hq) (huniq k q' hq' hd' ▸ hk) hji)).mono (Map.on_sub (.refl _) fun b' h => .inl h) (.refl _)
    rcases (H.ssa i o j q d ho hq hqd).1 hd with hij | hji
    case inr => exact old hji
    have hji := H.lt i j hin hij
    have h1 := I.done j q d hq (hr j hij) hqd
    rw [H.tmp (j := j + 1) hji (Nat.le_of_lt hin) fun k q' hk _ hq' => (H.ssa k q' j q d hq' hq hqd).2 (by omega)]
    refine h1.mono (Map.on_sub (.refl _) fun b' h => ?_) (.refl _)
    rcases h with (h | ⟨j2, h4, h5⟩) | h
    · exact .inl h
    · exact .inr ⟨j2, H.tr i j j2 hin hij h4, h5⟩
    · exact .inr ⟨j, hij, h⟩
  · have h' : ∀ (j : Nat) (q : Oper), ops[j]? = some q → q.dst ≠ some d := fun j q hq hd => h ⟨j, q, hq, hd⟩
    rw [H.tmp (Nat.zero_le i) (Nat.le_of_lt hin) fun k q _ _ hq => h' k q hq]
    exact (I.old d fun j q hq _ => h' j q hq).mono (Map.on_sub (.refl _) fun b' h => .inl h) (.refl _)

def Store.only (M : Store) (p : Nat → Bool) : Store := ⟨M.n, (List.range M.n).map (fun k => if p (M.n - 1 - k) then M.get (M.n - 1 - k) else none), M.log⟩
theorem Store.only_get (M : Store) (p : Nat → Bool) (b : Nat) : (M.only p).get b = if p b then M.get b else none := by
  by_cases h : b < M.n
  · have h1 : M.n - 1 - b < M.n := by omega
    have h2 : M.n - 1 - (M.n - 1 - b) = b := by omega
    simp [Store.only, Store.get, h, h1, h2]
  · rw [M.get_ge (Nat.le_of_not_lt h), Store.get_ge _ (show (M.only p).n ≤ b from Nat.le_of_not_lt h)]; simp

/-- One more is done. -/
theorem Inv.next (H : TraceOk ops S T B P call) {E : Nat → Prop} (hE : ∀ j k, j < ops.size → E j → B j k → E k) {i : Nat} {o : Oper} (ho : ops[i]? = some o) (hi : ¬ E i) (hr : ∀ k, B i k → E k)
    {df : List Deferred} {μ0 μ : Map} {w0 w : World} {ca : Act} (I : Inv P ops S T B df μ0 w0 E μ w ca) (hT : lightO o.op = true → T i = []) {M0 M1 : Store} (hn : M0.n = (S i).2.n) (hn1 : M1.n = (S (i + 1)).2.n) (hl : M1.log = T i ++ M0.log)
    (hg1 : ∀ b, (b ∈ T i ∧ b < (S i).2.n) ∨ New S i b → M1.get b = (S (i + 1)).2.get b) {v cv : Value} (hv : (S (i + 1)).1 = (S i).1.put o.dst v) {w' : World} (hM : Made P (μ.on (Acc S B i)) M0 w v M1 cv w') :
    ∃ μ', Inv P ops S T B df μ0 w0 (fun j => E j ∨ j = i) μ' w' (ca.put o.dst cv) := by
  obtain ⟨μi, hR, hS, hcv⟩ := hM
  have hin := lt_of_get ho
  obtain ⟨t, ht, hfr, hnew⟩ := hS.log
  have : t = T i := by rw [hl] at ht; exact (List.append_cancel_right ht).symm
  subst this
  have h0i : (S 0).2.n ≤ (S i).2.n := H.mono (Nat.zero_le i) (Nat.le_of_lt hin)
  have nacc : ∀ b, New S i b → ¬ Acc S B i b := fun b h h' => by
    have := H.accLt hin h'; have := h.1; omega
  have nE : ∀ b, New S i b → μ b = none := fun b h => by
    cases hm : μ b with
    | none => rfl
    | some l =>
      rcases (I.dom b l hm).1 with h1 | ⟨j, hj, hEj, h1⟩
      · have := h.1; omega
      · exact absurd (H.uniq hj hin h1 h ▸ hEj) hi
  let μ' : Map := fun b => if New S i b then μi b else μ b
  have mnew : ∀ b, New S i b → μ' b = μi b := fun b h => if_pos h
  have mold : ∀ b, ¬ New S i b → μ' b = μ b := fun b h => if_neg h
  have hle : MLe μ μ' := fun b l h => by
    rw [mold b fun hb => by rw [nE b hb] at h; cases h]; exact h
  have hi' : MLe μi (μ'.on (AccS S B (some i))) := fun b l h => by
    by_cases hb : New S i b
    · rw [Map.on_eq (show AccS S B (some i) b from .inr hb), mnew b hb]; exact h
    · rcases hnew b l h with h1 | ⟨h1, _, _⟩
      · obtain ⟨h2, h3⟩ := Map.on_some h1
        rw [Map.on_eq (show AccS S B (some i) b from .inl h2)]; exact hle b l h3
      · exact absurd ⟨hn ▸ h1, hn1 ▸ (hR.dom b l h).1⟩ hb
  -- who was touched was there, and is the operation's own
  have touched : ∀ x l, x ∈ T i → μ x = some l → (μ.on (Acc S B i)) x = some l → ∀ ox sx, Cur S T B ops.size E x ox sx → ox ≠ none := by
    intro x l hx hm hmo ox sx hc
    have hax := (Map.on_some hmo).1
    have hxi := H.accLt hin hax
    obtain ⟨h1, h2, _⟩ := H.cf i x hin hx hxi
    have hrd : Rd ops S B i x := ⟨hax, fun o' ho' hlo => by
      rw [ho] at ho'; injection ho' with ho'; subst ho'
      rw [hT hlo] at hx; cases hx⟩
    rw [(H.cur hE hin hi hr hrd hc).1]; exact h1
  -- what holds now was so ahead, but for what was touched
  have back : ∀ b l ob s, μ b = some l → ¬ New S i b → Cur S T B ops.size (fun j => E j ∨ j = i) b ob s → ob ≠ none → ∃ ob' s', Cur S T B ops.size E b ob' s' ∧ ob' ≠ none := by
    intro b l ob s hm hb hc hne
    by_cases hx : b ∈ T i ∧ b < (S i).2.n
    · obtain ⟨ox, sx, h1, _⟩ := I.obj b l hm
      exact ⟨ox, sx, h1, touched b l hx.1 hm (by rw [Map.on_eq (H.cf i b hin hx.1 hx.2).2.1]; exact hm) ox sx h1⟩
    · have hnt : ¬ Tch S T i b := fun h => h.elim hx hb
      cases s with
      | none => exact ⟨ob, none, ⟨hc.1, hc.2.1, fun j hj hEj => hc.2.2 j hj (.inl hEj)⟩, hne⟩
      | some j =>
        obtain ⟨h1, h2, h3, h4, h5⟩ := hc
        have hji : j ≠ i := fun e => hnt (e ▸ h3)
        exact ⟨ob, some j, ⟨h1, h2.resolve_right hji, h3, h4, fun k hk hEk => h5 k hk (.inl hEk)⟩, hne⟩
  -- a new one's block is no other's
  have apart : ∀ b b' l l', New S i b → ¬ New S i b' → μi b = some l → μ b' = some l' → ∀ ob s ob' s', Cur S T B ops.size (fun j => E j ∨ j = i) b ob s → Cur S T B ops.size (fun j => E j ∨ j = i) b' ob' s' → ob ≠ none → ob' ≠ none → l.b ≠ l'.b := by
    intro b b' l l' hb hb' hm hm' ob s ob' s' hc hc' hne hne'
    rcases hnew b l hm with h1 | ⟨_, hown, h1⟩
    · exact absurd (Map.on_some h1).1 (nacc b hb)
    · rcases h1 with h1 | ⟨x, hx, k, hk, hko, hkb⟩
      · have := (I.dom b' l' hm').2; omega
      · obtain ⟨hax, hmx⟩ := Map.on_some hk
        obtain ⟨ob2, s2, hc2, hne2⟩ := back b' l' ob' s' hm' hb' hc' hne'
        by_cases hxb : x = b'
        · subst hxb
          have hxi := H.accLt hin hax
          have e1 : M1.get b = ob := by
            rw [hg1 b (.inr hb)]
            cases s with
            | none => have := hc.1; have := hb.1; omega
            | some j =>
              obtain ⟨q1, q2, q3, q4, q5⟩ := hc
              rcases q5 i hin (.inr rfl) (.inr hb) with e | e
              · rw [q4, e]
              · rcases q3 with ⟨q3, q3'⟩ | q3
                · have hEj : E j := q2.resolve_right fun e' => by
                    subst e'; have := H.lt j j hin e; omega
                  have := H.lt j i q1 e
                  rcases (H.cf j b q1 q3 q3').2.1 with h | ⟨j2, h, h'⟩
                  · have := hb.1; omega
                  · have hj2 := H.lt j j2 q1 h
                    rw [H.uniq (Nat.lt_trans hj2 q1) hin h' hb] at h
                    exact absurd (hE j i q1 hEj h) hi
                · rw [q4, H.uniq q1 hin q3 hb]
          have e2 : M1.get x = ob' := by
            rw [hg1 x (.inl ⟨hx, hxi⟩)]
            cases s' with
            | none => exact absurd hx (hc'.2.2 i hin (.inr rfl))
            | some j =>
              obtain ⟨q1, q2, q3, q4, q5⟩ := hc'
              rcases q5 i hin (.inr rfl) (.inl ⟨hx, hxi⟩) with e | e
              · rw [q4, e]
              · have hEj : E j := q2.resolve_right fun e' => by
                  subst e'; have := H.lt j j hin e; omega
                exact absurd (hE j i q1 hEj e) hi
          exact hR.excl b x l k hm (hS.le x k hk) (fun e => hb' (e ▸ hb)) (by rw [e1]; exact hne) (by rw [e2]; exact hne') hown |> fun h => by
            rw [hmx] at hm'; injection hm' with hm'; rw [← hm']; exact h
        · obtain ⟨ox, sx, hcx, _⟩ := I.obj x k hmx
          rw [← hkb]
          exact I.excl x b' k l' hmx hm' hxb ox sx ob2 s2 hcx hc2 (touched x k hx hmx hk ox sx hcx) hne2 hko
  have hi'on : MLe (μ.on (Acc S B i)) (μ'.on (AccS S B (some i))) := (hS.le).trans hi'
  have frame' : ∀ b, b < w.heap.size → (∀ x ∈ T i, ∀ l, μ x = some l → Acc S B i x → l.own = true → l.b ≠ b) → w'.heap[b]? = w.heap[b]? := fun b hb hq =>
    hfr b hb fun x hx l hxl ho' => hq x hx l (Map.on_some hxl).2 (Map.on_some hxl).1 ho'
  -- the last that touched, whoever it was
  have mine : ∀ b, b ∈ T i → b < (S i).2.n → ∀ k, k < ops.size → E k → Tch S T k b → B i k := by
    intro b hb hbi k hk hEk ht
    obtain ⟨h1, h2, _⟩ := H.cf i b hin hb hbi
    have hrd : Rd ops S B i b := ⟨h2, fun o' ho' hlo => by
      rw [ho] at ho'; injection ho' with ho'; subst ho'
      rw [hT hlo] at hb; cases hb⟩
    rcases ht with ⟨h3, h4⟩ | h3
    · rcases (H.cf k b hk h3 h4).2.2 i hin (fun e => hi (e ▸ hEk)) hrd with h | h
      · exact absurd (hE k i hk hEk h) hi
      · exact h
    · rcases h2 with h | ⟨j, h4, h5⟩
      · have := H.mono (Nat.zero_le k) (Nat.le_of_lt hk); have := h3.1; omega
      · rw [H.uniq hk (Nat.lt_trans (H.lt i j hin h4) hin) h3 h5]; exact h4
  refine ⟨μ', ?_⟩
  refine { size := by intro t; rw [put_size]; exact I.size t, defers := by rw [put_defers]; exact I.defers, dom := ?_, obj := ?_, excl := ?_, old := ?_, done := ?_, le := I.le.trans hle, hsize := Nat.le_trans I.hsize hS.size, os := hS.os.trans I.os, tape := hS.tape.trans I.tape, output := hS.output.trans I.output, shp := I.shp.trans hS.shp, frame := ?_, fresh := ?_ }
  · intro b l hm
    by_cases hb : New S i b
    · rw [mnew b hb] at hm
      exact ⟨.inr ⟨i, hin, .inr rfl, hb⟩, (hR.dom b l hm).2⟩
    · rw [mold b hb] at hm
      obtain ⟨h1, h2⟩ := I.dom b l hm
      exact ⟨h1.imp id fun ⟨j, h3, h4, h5⟩ => ⟨j, h3, .inl h4, h5⟩, Nat.lt_of_lt_of_le h2 hS.size⟩
  · intro b l hm
    by_cases hb : New S i b
    · rw [mnew b hb] at hm
      refine ⟨(S (i + 1)).2.get b, some i, ⟨hin, .inr rfl, .inr hb, rfl, fun k hk hEk ht => ?_⟩, ?_⟩
      · rcases hEk with hEk | rfl
        · rcases ht with ⟨h3, h4⟩ | h3
          · rcases (H.cf k b hk h3 h4).2.1 with h | ⟨j2, h, h'⟩
            · have := hb.1; omega
            · rw [H.uniq (Nat.lt_trans (H.lt k j2 hk h) hk) hin h' hb] at h
              exact absurd (hE k i hk hEk h) hi
          · exact .inl (H.uniq hk hin h3 hb)
        · exact .inl rfl
      · rw [← hg1 b (.inr hb)]
        exact (hR.obj b l hm).keep hi' (.refl _) fun _ => rfl
    · rw [mold b hb] at hm
      by_cases hx : b ∈ T i ∧ b < (S i).2.n
      · have hax := (H.cf i b hin hx.1 hx.2).2.1
        refine ⟨(S (i + 1)).2.get b, some i, ⟨hin, .inr rfl, .inl hx, rfl, fun k hk hEk ht => ?_⟩, ?_⟩
        · rcases hEk with hEk | rfl
          · exact .inr (mine b hx.1 hx.2 k hk hEk ht)
          · exact .inl rfl
        · rw [← hg1 b (.inl hx)]
          exact (hR.obj b l (hS.le b l (by rw [Map.on_eq hax]; exact hm))).keep hi' (.refl _) fun _ => rfl
      · have hnt : ¬ Tch S T i b := fun h => h.elim hx hb
        obtain ⟨ob, s, hc, hobj⟩ := I.obj b l hm
        refine ⟨ob, s, ?_, hobj.keep (Map.on_sub hle fun _ h => h) hS.shp fun hne => frame' l.b (I.dom b l hm).2 fun x hx' lx hlx hax ho' => ?_⟩
        · cases s with
          | none => exact ⟨hc.1, hc.2.1, fun j hj hEj => hEj.elim (hc.2.2 j hj) fun e => e ▸ fun hbT => hx ⟨hbT, Nat.lt_of_lt_of_le hc.1 h0i⟩⟩
          | some j =>
            obtain ⟨h1, h2, h3, h4, h5⟩ := hc
            exact ⟨h1, .inl h2, h3, h4, fun k hk hEk ht => hEk.elim (fun h => h5 k hk h ht) fun e => absurd (e ▸ ht) hnt⟩
        · obtain ⟨ox, sx, hcx, _⟩ := I.obj x lx hlx
          exact I.excl x b lx l hlx hm (fun e => hx ⟨e ▸ hx', e ▸ H.accLt hin hax⟩) ox sx ob s hcx hc (touched x lx hx' hlx (by rw [Map.on_eq hax]; exact hlx) ox sx hcx) hne ho'
  · intro b b' l l' hm hm' hne ob s ob' s' hc hc' hz hz' ho'
    by_cases hb : New S i b
    · rw [mnew b hb] at hm
      by_cases hb' : New S i b'
      · rw [mnew b' hb'] at hm'
        have ev : ∀ b ob s, New S i b → Cur S T B ops.size (fun j => E j ∨ j = i) b ob s → M1.get b = ob := by
          intro b ob s hb hc
          rw [hg1 b (.inr hb)]
          cases s with
          | none => have := hc.1; have := hb.1; omega
          | some j =>
            obtain ⟨q1, q2, q3, q4, q5⟩ := hc
            rcases q5 i hin (.inr rfl) (.inr hb) with e | e
            · rw [q4, e]
            · rcases q3 with ⟨q3, q3'⟩ | q3
              · have hEj : E j := q2.resolve_right fun e' => by
                  subst e'; have := H.lt j j hin e; omega
                exact absurd (hE j i q1 hEj e) hi
              · rw [q4, H.uniq q1 hin q3 hb]
        exact hR.excl b b' l l' hm hm' hne (by rw [ev b ob s hb hc]; exact hz) (by rw [ev b' ob' s' hb' hc']; exact hz') ho'
      · rw [mold b' hb'] at hm'
        exact apart b b' l l' hb hb' hm hm' ob s ob' s' hc hc' hz hz'
    · rw [mold b hb] at hm
      by_cases hb' : New S i b'
      · rw [mnew b' hb'] at hm'
        exact (apart b' b l' l hb' hb hm' hm ob' s' ob s hc' hc hz' hz).symm
      · rw [mold b' hb'] at hm'
        obtain ⟨o1, s1, c1, z1⟩ := back b l ob s hm hb hc hz
        obtain ⟨o2, s2, c2, z2⟩ := back b' l' ob' s' hm' hb' hc' hz'
        exact I.excl b b' l l' hm hm' hne o1 s1 o2 s2 c1 c2 z1 z2 ho'
  · intro t ht
    rw [getD_put, if_neg fun h => ht i o ho (.inr rfl) h.1]
    exact (I.old t fun j q hq hEj => ht j q hq (.inl hEj)).mono (Map.on_sub hle fun _ h => h) hS.shp
  · intro j q t hq hEj hqt
    by_cases hji : j = i
    · subst hji
      rw [ho] at hq; injection hq with hq; subst hq
      rw [hv, getD_put, aget_put, hqt]
      have hsz : ∀ t, (S j).1.t.has t = true ↔ t < ca.tmps.size := fun t => by rw [H.size (Nat.le_of_lt hin)]; exact I.size t
      by_cases hts : t < ca.tmps.size
      · rw [if_pos ⟨rfl, hts⟩, if_pos ⟨rfl, (hsz t).2 hts⟩]
        exact hcv.mono hi' (.refl _)
      · rw [if_neg fun h => hts h.2, if_neg fun h => hts ((hsz t).1 h.2)]
        have e1 : ca.tmps.getD t undef = undef := by simp [Array.getD, hts]
        have e2 : (S j).1.get t = undef := PT.get_none _ _ (by cases hb : (S j).1.t.has t with | false => rfl | true => exact absurd ((hsz t).1 hb) hts)
        rw [e1, e2]; exact VRel.undef
    · have hEj' := hEj.resolve_right hji
      rw [getD_put, if_neg fun h => (H.ssa i o j q t ho hq hqt).2 (Ne.symm hji) h.1]
      exact (I.done j q t hq hEj' hqt).mono (Map.on_sub hle fun _ h => h) hS.shp
  · intro b hb hq
    have h1 : w'.heap[b]? = w.heap[b]? := frame' b (Nat.lt_of_lt_of_le hb I.hsize) fun x hx l hl hax ho' hlb => by
      rcases I.fresh x l hl with h | ⟨_, h2, h3⟩
      · exact hq i hin (.inr rfl) x hx l h ho' hlb
      · rcases h3 with h3 | ⟨j, hj, hEj, y, hy, k, hk, hko, hkb⟩
        · omega
        · exact hq j hj (.inl hEj) y hy k hk hko (hkb.trans hlb)
    rw [h1]
    exact I.frame b hb fun j hj hEj => hq j hj (.inl hEj)
  · intro b l hm
    by_cases hb : New S i b
    · rw [mnew b hb] at hm
      rcases hnew b l hm with h1 | ⟨_, hown, h1⟩
      · exact absurd (Map.on_some h1).1 (nacc b hb)
      · refine .inr ⟨Nat.le_trans h0i hb.1, hown, ?_⟩
        rcases h1 with h1 | ⟨x, hx, k, hk, hko, hkb⟩
        · exact .inl (Nat.le_trans I.hsize h1)
        · rcases I.fresh x k (Map.on_some hk).2 with h | ⟨_, h2, h3⟩
          · exact .inr ⟨i, hin, .inr rfl, x, hx, k, h, hko, hkb⟩
          · rcases h3 with h3 | ⟨j, hj, hEj, y, hy, k', hk', hko', hkb'⟩
            · exact .inl (hkb ▸ h3)
            · exact .inr ⟨j, hj, .inl hEj, y, hy, k', hk', hko', hkb'.trans hkb⟩
    · rw [mold b hb] at hm
      rcases I.fresh b l hm with h | ⟨h1, h2, h3⟩
      · exact .inl h
      · exact .inr ⟨h1, h2, h3.imp id fun ⟨j, hj, hEj, r⟩ => ⟨j, hj, .inl hEj, r⟩⟩

theorem Inv.op (H : TraceOk ops S T B P call) {E : Nat → Prop} (hE : ∀ j k, j < ops.size → E j → B j k → E k) {i : Nat} {o : Oper} (ho : ops[i]? = some o) (hi : ¬ E i) (hr : ∀ k, B i k → E k)
    {df : List Deferred} {μ0 μ : Map} {w0 w : World} {ca : Act} (I : Inv P ops S T B df μ0 w0 E μ w ca) {ro : Option Nat} {Q : Exit → Act → World → Prop} {K : Act → World → Prop}
    (hK : ∀ ca' μ' w', Inv P ops S T B df μ0 w0 (fun j => E j ∨ j = i) μ' w' ca' → K ca' w') : wpOpIn (fen ro) 0 P ops Q i K ca w := by
  have hin := lt_of_get ho
  have look := I.look H hE ho hi hr
  have hsz : ∀ t, (S i).1.t.has t = true ↔ t < ca.tmps.size := fun t => by rw [H.size (Nat.le_of_lt hin)]; exact I.size t
  have hst := H.step i o ho
  have hlog := H.log i hin
  unfold wpOpIn
  simp only [ho]
  rw [wanted_at hsz ops o look]
  unfold astep at hst
  -- nothing was touched
  have quiet : ∀ p : Option AObj, (S (i + 1)).2 = (S i).2.pushO p → T i = [] := fun p hp => by
    rw [hp] at hlog
    have : (S i).2.log = T i ++ (S i).2.log := by cases p <;> exact hlog
    exact List.append_left_eq_self.1 this.symm
  have blank : ∀ q : Nat → Bool, (∀ b, q b = true → ∀ o', ops[i]? = some o' → lightO o'.op = true → b ∈ readIds (S i).1.eval o'.op) → Rel P (μ.on (Acc S B i)) ((S i).2.only q) w := fun q hq =>
    I.rel H hE hin hi hr rfl fun b hb hz => by
      rw [Store.only_get] at hz ⊢
      split at hz
      · rename_i h; rw [if_pos h]; exact ⟨rfl, hb, hq b h⟩
      · exact absurd rfl hz
  split at hst
  · rename_i hw
    rw [if_pos hw]
    cases hli : lightO o.op with
    | true =>
      have hq : Rel P (μ.on (Acc S B i)) ((S i).2.only fun b => (readIds (S i).1.eval o.op).contains b) w := blank _ fun b hb o' ho' _ => by
        rw [ho] at ho'; injection ho' with ho'; subst ho'
        simpa using hb
      split at hst
      · rename_i v M1 h1
        obtain ⟨v', p, hv', hp, h2⟩ := aop_light hli h1
        injection hv' with hv'; subst hv'
        injection hst with hst
        have e1 : (S (i + 1)).1 = (S i).1.put o.dst v := by rw [← hst]
        have e2 : (S (i + 1)).2 = (S i).2.pushO p := by rw [← hst]; exact hp
        have h3 := h2 ((S i).2.only fun b => (readIds (S i).1.eval o.op).contains b) rfl fun b hb => by rw [Store.only_get, if_pos (by simpa using hb)]
        have hN := aop_run hq (eval_at (H.ok i o ho) look) h3
        obtain ⟨cv, w', hrun, hM⟩ := hN
        have hTi := quiet p e2
        obtain ⟨μ', hI⟩ := I.next H hE ho hi hr (fun _ => hTi) (M0 := (S i).2.only fun b => (readIds (S i).1.eval o.op).contains b) (M1 := ((S i).2.only fun b => (readIds (S i).1.eval o.op).contains b).pushO p) rfl (by rw [e2]; cases p <;> rfl) (by rw [hTi]; cases p <;> rfl)
          (fun b hb => by
            rw [hTi] at hb
            rcases hb with hb | hb
            · cases hb.1
            · unfold New at hb
              rw [e2] at hb ⊢
              cases p with
              | none => have := hb.1; have := hb.2; simp only [Store.pushO] at this; omega
              | some ob =>
                have hb1 := hb.1
                have hb2 : b < (S i).2.n + 1 := hb.2
                obtain rfl : b = (S i).2.n := by omega
                simp only [Store.pushO]
                rw [Store.get_push_eq]
                exact Store.get_push_eq _ _) e1 hM
        rcases hrun with hrun | ⟨hrun, rfl⟩
        · exact wpIn_value (aop_nodefer h1) hrun (hK _ μ' w' hI)
        · exact wpIn_skipped (aop_nodefer h1) hrun (hK _ μ' w' hI)
      · rename_i g f args M1 h1
        obtain ⟨v', p, hv', _⟩ := aop_light hli h1
        cases hv'
      · cases hst
    | false =>
      have hq : Rel P (μ.on (Acc S B i)) (S i).2 w := I.rel H hE hin hi hr rfl fun b hb _ => ⟨rfl, hb, fun o' ho' hl => by
        rw [ho] at ho'; injection ho' with ho'; subst ho'
        rw [hli] at hl; cases hl⟩
      have nx : ∀ v cv w', (S (i + 1)).1 = (S i).1.put o.dst v → Made P (μ.on (Acc S B i)) (S i).2 w v (S (i + 1)).2 cv w' → K (ca.put o.dst cv) w' := fun v cv w' e1 hM => by
        obtain ⟨μ', hI⟩ := I.next H hE ho hi hr (fun h => by rw [hli] at h; cases h) (M0 := (S i).2) (M1 := (S (i + 1)).2) rfl rfl hlog (fun _ _ => rfl) e1 hM
        exact hK _ μ' w' hI
      split at hst
      · rename_i v M1 h1
        injection hst with hst
        have e1 : (S (i + 1)).1 = (S i).1.put o.dst v := by rw [← hst]
        have e2 : (S (i + 1)).2 = M1 := by rw [← hst]
        have hN := aop_run hq (eval_at (H.ok i o ho) look) h1
        obtain ⟨cv, w', hrun, hM⟩ := hN
        rw [← e2] at hM
        rcases hrun with hrun | ⟨hrun, rfl⟩
        · exact wpIn_value (aop_nodefer h1) hrun (nx v cv w' e1 hM)
        · exact wpIn_skipped (aop_nodefer h1) hrun (nx v undef w' e1 hM)
      · rename_i g f args M1 h1
        have hN := aop_run hq (eval_at (H.ok i o ho) look) h1
        split at hst
        · rename_i v M2 h2
          injection hst with hst
          have e1 : (S (i + 1)).1 = (S i).1.put o.dst v := by rw [← hst]
          have e2 : (S (i + 1)).2 = M2 := by rw [← hst]
          exact wpIn_called H.callok (aop_nodefer h1) hq hN h2 fun cv w' hM => nx v cv w' e1 (by rw [e2]; exact hM)
        · cases hst
      · cases hst
  · rename_i hw
    rw [if_neg hw]
    refine ⟨fun _ _ => trivial, ?_⟩
    injection hst with hst
    have e1 : (S (i + 1)).1 = (S i).1.put o.dst undef := by rw [← hst]
    have e2 : (S (i + 1)).2 = (S i).2.pushO none := by rw [← hst]; rfl
    have hTi := quiet none e2
    have hq : Rel P (μ.on (Acc S B i)) ((S i).2.only fun _ => false) w := blank _ fun b hb => by cases hb
    obtain ⟨μ', hI⟩ := I.next H hE ho hi hr (fun _ => hTi) (M0 := (S i).2.only fun _ => false) (M1 := (S i).2.only fun _ => false) rfl (by rw [e2]; rfl) (by rw [hTi]; rfl)
      (fun b hb => by
        rw [hTi] at hb
        rcases hb with hb | hb
        · cases hb.1
        · unfold New at hb; rw [e2] at hb
          have := hb.1; have := hb.2; simp only [Store.pushO] at this; omega) e1 (Made.pure hq (v := undef) (cv := undef) VRel.undef)
    exact hK _ μ' w hI

/-- Nothing is done. -/
theorem Inv.init (H : TraceOk ops S T B P call) {df : List Deferred} {μ : Map} {w : World} {ca : Act} (hR : Rel P μ (S 0).2 w) (hsz : ∀ t, (S 0).1.t.has t = true ↔ t < ca.tmps.size) (hd : ca.defers = df)
    (ht : ∀ i : Nat, VRel P μ w.shape? (ca.tmps.getD i undef) ((S 0).1.get i)) : Inv P ops S T B df μ w (fun _ => False) μ w ca := by
  have on : MLe μ (μ.on (AccS S B none)) := fun b l h => by rw [Map.on_eq (show AccS S B none b from (hR.dom b l h).1)]; exact h
  have cu : ∀ b ob s, Cur S T B ops.size (fun _ => False) b ob s → ob = (S 0).2.get b := by
    intro b ob s hc
    cases s with
    | none => exact hc.2.1
    | some j => exact hc.2.1.elim
  exact { size := hsz, defers := hd, dom := fun b l h => ⟨.inl (hR.dom b l h).1, (hR.dom b l h).2⟩,
          obj := fun b l h => ⟨(S 0).2.get b, none, ⟨(hR.dom b l h).1, rfl, fun _ _ h => h.elim⟩, (hR.obj b l h).keep on (.refl _) fun _ => rfl⟩,
          excl := fun b b' l l' h h' hne ob s ob' s' hc hc' hz hz' => hR.excl b b' l l' h h' hne (by rw [← cu b ob s hc]; exact hz) (by rw [← cu b' ob' s' hc']; exact hz'),
          old := fun t _ => (ht t).mono on (.refl _), done := fun _ _ _ _ h => h.elim, le := .refl _, hsize := Nat.le_refl _, os := rfl, tape := rfl, output := rfl, shp := .refl _, frame := fun _ _ _ => rfl, fresh := fun _ _ h => .inl h }

/-- All is done. -/
theorem Inv.fin (H : TraceOk ops S T B P call) {df : List Deferred} {μ0 μ : Map} {w0 w : World} {ca : Act} {E : Nat → Prop} (hall : ∀ j, j < ops.size → E j) (I : Inv P ops S T B df μ0 w0 E μ w ca) :
    Step μ0 (S 0).2 w0 μ (S ops.size).2 w ∧ Rel P μ (S ops.size).2 w ∧ (∀ i : Nat, VRel P μ w.shape? (ca.tmps.getD i undef) ((S ops.size).1.get i)) := by
  have cu : ∀ b ob s, Cur S T B ops.size E b ob s → ob = (S ops.size).2.get b := by
    intro b ob s hc
    cases s with
    | none => rw [hc.2.1]; exact (H.stay (Nat.zero_le _) (Nat.le_refl _) hc.1 fun k _ hk => hc.2.2 k hk (hall k hk)).symm
    | some j =>
      obtain ⟨h1, h2, h3, h4, h5⟩ := hc
      rw [h4]
      have hbj : b < (S (j + 1)).2.n := by
        rcases h3 with ⟨h4, h5⟩ | h4
        · exact Nat.lt_of_lt_of_le h5 (H.mono (Nat.le_succ j) h1)
        · exact h4.2
      refine (H.stay h1 (Nat.le_refl _) hbj fun k hk1 hk hb => ?_).symm
      rcases h5 k hk (hall k hk) (.inl ⟨hb, Nat.lt_of_lt_of_le hbj (H.mono hk1 (Nat.le_of_lt hk))⟩) with h | h
      · omega
      · have := H.lt j k h1 h; omega
  have logs : ∀ i, i ≤ ops.size → ∃ t, (S i).2.log = t ++ (S 0).2.log ∧ ∀ j, j < i → ∀ x ∈ T j, x ∈ t := by
    intro i
    induction i with
    | zero => intro _; exact ⟨[], rfl, fun j hj => by omega⟩
    | succ i ih =>
      intro hi
      obtain ⟨t, h1, h2⟩ := ih (by omega)
      refine ⟨T i ++ t, by rw [H.log i hi, h1, List.append_assoc], fun j hj x hx => ?_⟩
      rcases Nat.lt_or_ge j i with h | h
      · exact List.mem_append_right _ (h2 j h x hx)
      · obtain rfl : j = i := by omega
        exact List.mem_append_left _ hx
  obtain ⟨t, ht, htm⟩ := logs ops.size (Nat.le_refl _)
  refine ⟨⟨I.le, H.mono (Nat.zero_le _) (Nat.le_refl _), I.hsize, I.os, I.tape, I.output, I.shp, t, ht, fun b hb hq => ?_, fun b l h => ?_⟩, ⟨fun b l h => ?_, fun b l h => ?_, fun b b' l l' h h' hne hz hz' => ?_⟩, fun i => ?_⟩
  · exact I.frame b hb fun j hj _ x hx => hq x (htm j hj x hx)
  · rcases I.fresh b l h with h | ⟨h1, h2, h3⟩
    · exact .inl h
    · exact .inr ⟨h1, h2, h3.imp id fun ⟨j, hj, _, x, hx, r⟩ => ⟨x, htm j hj x hx, r⟩⟩
  · obtain ⟨h1, h2⟩ := I.dom b l h
    refine ⟨?_, h2⟩
    rcases h1 with h1 | ⟨j, hj, _, h1⟩
    · exact Nat.lt_of_lt_of_le h1 (H.mono (Nat.zero_le _) (Nat.le_refl _))
    · exact Nat.lt_of_lt_of_le h1.2 (H.mono hj (Nat.le_refl _))
  · obtain ⟨ob, s, hc, ho⟩ := I.obj b l h
    rw [← cu b ob s hc]
    exact ho.keep (Map.on_le _ _) (.refl _) fun _ => rfl
  · obtain ⟨ob, s, hc, _⟩ := I.obj b l h
    obtain ⟨ob', s', hc', _⟩ := I.obj b' l' h'
    exact I.excl b b' l l' h h' hne ob s ob' s' hc hc' (by rw [cu b ob s hc]; exact hz) (by rw [cu b' ob' s' hc']; exact hz')
  · by_cases h : ∃ (j : Nat) (q : Oper), ops[j]? = some q ∧ q.dst = some i
    · obtain ⟨j, q, hq, hqd⟩ := h
      have hj := lt_of_get hq
      rw [H.tmp (j := j + 1) hj (Nat.le_refl _) fun k q' hk _ hq' => (H.ssa k q' j q i hq' hq hqd).2 (by omega)]
      exact (I.done j q i hq (hall j hj) hqd).mono (Map.on_le _ _) (.refl _)
    · have h' : ∀ (j : Nat) (q : Oper), ops[j]? = some q → q.dst ≠ some i := fun j q hq hd => h ⟨j, q, hq, hd⟩
      rw [H.tmp (Nat.zero_le _) (Nat.le_refl _) fun k q _ _ hq => h' k q hq]
      exact (I.old i fun j q hq _ => h' j q hq).mono (Map.on_le _ _) (.refl _)

theorem ready_all (H : TraceOk ops S T B P call) {listed : Array Bool} (hs : listed.size = ops.size) (h : Region.ready .any ops listed = []) : ∀ j, j < ops.size → listed.getD j false = true := by
  intro j
  induction j using Nat.strongRecOn with
  | ind j ih =>
    intro hj
    obtain ⟨o, ho⟩ := get_lt hj
    cases hl : listed.getD j false with
    | true => rfl
    | false =>
      have : j ∈ Region.ready .any ops listed := mem_ready.2 ⟨by
          have : j < listed.size := by rw [hs]; exact hj
          simp [Array.getD, this] at hl ⊢; exact hl, o, ho, fun e he hb => ih e.on (H.edgeLt j o ho e he hb) (Nat.lt_trans (H.edgeLt j o ho e he hb) hj)⟩
      rw [h] at this; cases this

theorem Inv.any (H : TraceOk ops S T B P call) {ro : Option Nat} {df : List Deferred} {μ0 : Map} {w0 : World} {Q : Exit → Act → World → Prop}
    (hQ : ∀ E μ w ca, (∀ j, j < ops.size → E j) → Inv P ops S T B df μ0 w0 E μ w ca → Q .normal ca w) :
    ∀ (fuel : Nat) (listed : Array Bool) (μ : Map) (w : World) (ca : Act), listed.size = ops.size → listed.toList.count false ≤ fuel → (∀ j k, j < ops.size → listed.getD j false = true → B j k → listed.getD k false = true) →
      Inv P ops S T B df μ0 w0 (fun j => listed.getD j false = true) μ w ca → wpAnyIn (fen ro) 0 P .any ops Q fuel listed ca w := by
  intro fuel
  induction fuel with
  | zero =>
    intro listed μ w ca hs hf hE I
    have hall : ∀ j, j < ops.size → listed.getD j false = true := fun j hj => by
      have hj' : j < listed.size := by rw [hs]; exact hj
      have h0 := List.count_eq_zero.1 (Nat.le_zero.1 hf)
      have hm : listed[j] ∈ listed.toList := by simp
      cases hl : listed[j] with
      | true => simp [Array.getD, hj', hl]
      | false => rw [hl] at hm; exact absurd hm h0
    refine ⟨?_, hQ _ μ w ca hall I⟩
    cases hr : Region.ready .any ops listed with
    | nil => rfl
    | cons j r =>
      have hm : j ∈ Region.ready .any ops listed := by rw [hr]; exact List.mem_cons_self
      obtain ⟨h1, o, ho, _⟩ := mem_ready.1 hm
      have hj := lt_of_get ho
      have h2 := hall j hj
      have hj' : j < listed.size := by rw [hs]; exact hj
      simp [Array.getD, hj'] at h1 h2
      rw [h1] at h2; cases h2
  | succ fuel ih =>
    intro listed μ w ca hs hf hE I
    refine ⟨fun hr => hQ _ μ w ca (ready_all H hs hr) I, fun i hi => ?_⟩
    obtain ⟨h1, o, ho, hall⟩ := mem_ready.1 hi
    have hin := lt_of_get ho
    have hi' : i < listed.size := by rw [hs]; exact hin
    have hfalse : listed[i] = false := by simpa [Array.getD, hi'] using h1
    have hn : ¬ listed.getD i false = true := by simp [Array.getD, hi', hfalse]
    have hr : ∀ k, B i k → listed.getD k false = true := fun k hk => by
      obtain ⟨e, he, hb, h⟩ := (H.edge i o ho k).1 hk
      rcases h with rfl | h
      · exact hall e he hb
      · exact hE e.on k (Nat.lt_trans (H.edgeLt i o ho e he hb) hin) (hall e he hb) h
    refine I.op H hE ho hn hr fun ca' μ' w' I' => ?_
    have hE' : (fun j => (listed.setIfInBounds i true).getD j false = true) = fun j => listed.getD j false = true ∨ j = i := funext fun j => propext (by
      by_cases hij : i = j
      · subst hij; simp [Array.getD, hi']
      · rw [getD_set_ne false hij]; exact ⟨.inl, fun h => h.resolve_right (Ne.symm hij)⟩)
    refine ih _ μ' w' ca' (by simp [hs]) ?_ (fun j k hj h hk => ?_) (by rw [hE']; exact I')
    · have : (listed.setIfInBounds i true).toList.count false + 1 ≤ listed.toList.count false := by
        rw [Array.toList_setIfInBounds, List.count_set (by simpa using hi')]
        have hpos : 0 < listed.toList.count false := List.count_pos_iff.2 (by rw [← hfalse]; simp)
        have e : (listed.toList[i]'(by simpa using hi') == false) = true := by simp [hfalse]
        rw [if_pos e, if_neg (by simp)]; omega
      omega
    · have h' : ((listed.setIfInBounds i true).getD j false = true) = (listed.getD j false = true ∨ j = i) := congrFun hE' j
      rw [h'] at h
      rcases h with h | rfl
      · exact getD_set_true (hE j k hj h hk)
      · exact getD_set_true (hr k hk)

/-! ## from the check -/
theorem foldl_mask (bs : List Nat) (j : Nat) : ∀ (es : List Edge) (m : Nat),
    (es.foldl (fun m e => if Region.binds .any e then m ||| 2 ^ e.on ||| bs.getD e.on 0 else m) m).testBit j = true ↔ (m.testBit j = true ∨ ∃ e ∈ es, Region.binds .any e = true ∧ (j = e.on ∨ (bs.getD e.on 0).testBit j = true)) := by
  intro es
  induction es with
  | nil => intro m; simp
  | cons e r ih =>
    intro m
    rw [List.foldl_cons, ih]
    by_cases hb : Region.binds .any e = true
    · rw [if_pos hb]
      simp only [Nat.testBit_or, Bool.or_eq_true, Nat.testBit_two_pow, decide_eq_true_eq, List.mem_cons, exists_eq_or_imp, hb, true_and]
      constructor
      · rintro (((h | h) | h) | h)
        · exact .inl h
        · exact .inr (.inl (.inl h.symm))
        · exact .inr (.inl (.inr h))
        · exact .inr (.inr h)
      · rintro (h | (h | h) | h)
        · exact .inl (.inl (.inl h))
        · exact .inl (.inl (.inr h.symm))
        · exact .inl (.inr h)
        · exact .inr h
    · rw [if_neg hb]
      simp [hb]

theorem arun_spec {P : Program} {call : ACall} {ops : Array Oper} : ∀ (l : List Oper) (a : AAct) (M : Store) (L : List (AAct × Store)), arun P call ops l a M = some L →
    L.length = l.length + 1 ∧ L[0]? = some (a, M) ∧ ∀ (i : Nat) (o : Oper), l[i]? = some o → ∃ s s', L[i]? = some s ∧ L[i + 1]? = some s' ∧ astep P call ops o s.1 s.2 = some s'
  | [], a, M, L, h => by
    simp only [arun] at h
    injection h with h; subst h
    exact ⟨rfl, rfl, fun i o ho => by simp at ho⟩
  | o :: r, a, M, L, h => by
    simp only [arun] at h
    split at h
    · rename_i a' M' h1
      obtain ⟨L', h2, h⟩ := Option.bind_eq_some_iff.1 h
      injection h with h; subst h
      obtain ⟨q1, q2, q3⟩ := arun_spec r a' M' L' h2
      refine ⟨by simp [q1], rfl, fun i o' ho' => ?_⟩
      cases i with
      | zero =>
        simp at ho'; subst ho'
        exact ⟨(a, M), (a', M'), rfl, by simpa using q2, h1⟩
      | succ i =>
        obtain ⟨s, s', h3, h4, h5⟩ := q3 i o' (by simpa using ho')
        exact ⟨s, s', by simpa using h3, by simpa using h4, h5⟩
    · cases h

theorem accB_spec {bs : List Nat} {L : List (AAct × Store)} {S : Nat → AAct × Store} {n : Nat} (hS : ∀ i, i ≤ n → L[i]? = some (S i)) {i b : Nat} (hi : i ≤ n) (h : accB bs (L.map (·.2.n)) i b = true) :
    Acc S (fun i j => (bs.getD i 0).testBit j = true) i b := by
  have hN : ∀ i, i ≤ n → (L.map (·.2.n)).getD i 0 = (S i).2.n := fun i hi => by simp [List.getD, hS i hi]
  unfold accB at h
  rw [hN 0 (Nat.zero_le _)] at h
  simp only [Bool.or_eq_true, decide_eq_true_eq, List.any_eq_true, List.mem_range, Bool.and_eq_true] at h
  rcases h with h | ⟨j, hj, h1, h2, h3⟩
  · exact .inl h
  · rw [hN j (by omega)] at h2
    rw [hN (j + 1) (by omega)] at h3
    exact .inr ⟨j, h1, h2, h3⟩
theorem accB_of {bs : List Nat} {L : List (AAct × Store)} {S : Nat → AAct × Store} {n : Nat} (hS : ∀ i, i ≤ n → L[i]? = some (S i)) {i b : Nat} (hi : i ≤ n) (hlt : ∀ j, (bs.getD i 0).testBit j = true → j < i)
    (h : Acc S (fun i j => (bs.getD i 0).testBit j = true) i b) : accB bs (L.map (·.2.n)) i b = true := by
  have hN : ∀ i, i ≤ n → (L.map (·.2.n)).getD i 0 = (S i).2.n := fun i hi => by simp [List.getD, hS i hi]
  unfold accB
  rw [hN 0 (Nat.zero_le _)]
  simp only [Bool.or_eq_true, decide_eq_true_eq, List.any_eq_true, List.mem_range, Bool.and_eq_true]
  rcases h with h | ⟨j, h1, h2, h3⟩
  · exact .inl h
  · have hj := hlt j h1
    exact .inr ⟨j, hj, h1, by rw [hN j (by omega)]; exact h2, by rw [hN (j + 1) (by omega)]; exact h3⟩

theorem drawOk_spec {ops : Array Oper} (h : drawOk ops = true) :
    (∀ (i : Nat) (o : Oper), ops[i]? = some o → (befs ops.toList []).getD i 0 = befMask (befs ops.toList []) o ∧ (∀ e ∈ o.after, Region.binds .any e = true → e.on < i) ∧
      ∀ (j : Nat) (q : Oper) (d : Tmp), ops[j]? = some q → q.dst = some d → (d ∈ o.looksAt ops → ((befs ops.toList []).getD i 0).testBit j = true ∨ ((befs ops.toList []).getD j 0).testBit i = true) ∧ (i ≠ j → o.dst ≠ some d)) := by
  intro i o ho
  have hi := lt_of_get ho
  unfold drawOk at h
  simp only [List.all_eq_true, List.mem_range] at h
  have h1 := h i hi
  simp only [ho, Bool.and_eq_true, beq_iff_eq, List.all_eq_true, List.mem_range] at h1
  obtain ⟨h2, h3, h4⟩ := h1
  refine ⟨h2, fun e he hb => ?_, fun j q d hq hd => ?_⟩
  · have := h3 e (by simpa using he)
    simpa [hb] using this
  · have := h4 j (lt_of_get hq)
    simp only [hq, hd, Bool.and_eq_true, Bool.or_eq_true, Bool.not_eq_true', beq_iff_eq, bne_iff_ne, ne_eq] at this
    refine ⟨fun hl => ?_, fun hij => ?_⟩
    · rcases this.1 with h | h
      · rw [List.contains_eq_mem] at h; simp [hl] at h
      · exact h
    · exact this.2.resolve_left hij

theorem trace_ok {P : Program} {call : ACall} (hc : CallOk P call) {ops : Array Oper} (hd : drawOk ops = true) (hok : ∀ o ∈ ops, operOk o = true) {a : AAct} {M : Store} {L : List (AAct × Store)} (h : arun P call ops ops.toList a M = some L) (hcf : cfOk ops L = true) :
    TraceOk ops (fun i => L.getD i (a, M)) (fun i => tdiff (L.getD i (a, M)).2 (L.getD (i + 1) (a, M)).2) (fun i j => ((befs ops.toList []).getD i 0).testBit j = true) P call := by
  obtain ⟨hlen, h0, hstep⟩ := arun_spec _ _ _ _ h
  have hS : ∀ i, i ≤ ops.size → L[i]? = some (L.getD i (a, M)) := fun i hi => by
    have : i < L.length := by rw [hlen]; simpa using Nat.lt_succ_of_le hi
    simp [List.getD, List.getElem?_eq_getElem this]
  have hst : ∀ (i : Nat) (o : Oper), ops[i]? = some o → astep P call ops o (L.getD i (a, M)).1 (L.getD i (a, M)).2 = some (L.getD (i + 1) (a, M)) := fun i o ho => by
    obtain ⟨s, s', h1, h2, h3⟩ := hstep i o (by simpa using ho)
    have e1 : L.getD i (a, M) = s := by simp [List.getD, h1]
    have e2 : L.getD (i + 1) (a, M) = s' := by simp [List.getD, h2]
    rw [e1, e2]; exact h3
  have hlog : ∀ i, i < ops.size → ∃ t, (L.getD (i + 1) (a, M)).2.log = t ++ (L.getD i (a, M)).2.log := fun i hi => by
    obtain ⟨o, ho⟩ := get_lt hi
    obtain ⟨_, t, h2, _⟩ := astep_grow hc (a := (L.getD i (a, M)).1) (M := (L.getD i (a, M)).2) (a' := (L.getD (i + 1) (a, M)).1) (M' := (L.getD (i + 1) (a, M)).2) (hst i o ho)
    exact ⟨t, h2⟩
  have D := drawOk_spec hd
  have hlt : ∀ i j, i < ops.size → ((befs ops.toList []).getD i 0).testBit j = true → j < i := by
    intro i
    induction i using Nat.strongRecOn with
    | ind i ih =>
      intro j hi hb
      obtain ⟨o, ho⟩ := get_lt hi
      obtain ⟨h1, h2, _⟩ := D i o ho
      rw [h1] at hb
      rcases (foldl_mask _ j _ 0).1 hb with h | ⟨e, he, hbi, h⟩
      · simp at h
      · have h3 := h2 e (by simpa using he) hbi
        rcases h with rfl | h
        · exact h3
        · exact Nat.lt_trans (ih e.on h3 j (Nat.lt_trans h3 hi) h) h3
  refine ⟨hc, fun i o ho => hok o (Array.mem_of_getElem? ho), hst, fun i hi => ?_, fun i o ho j => ?_, fun i o ho => (D i o ho).2.1, fun i o j q d ho => (D i o ho).2.2 j q d, fun i b hi hb hbn => ?_⟩
  · obtain ⟨t, ht⟩ := hlog i hi
    have : tdiff (L.getD i (a, M)).2 (L.getD (i + 1) (a, M)).2 = t := by
      unfold tdiff
      rw [ht]; simp
    rw [this]; exact ht
  · obtain ⟨h1, _, _⟩ := D i o ho
    rw [h1]
    unfold befMask
    rw [foldl_mask]
    simp
  · unfold cfOk at hcf
    rw [Bool.or_eq_true] at hcf
    rcases hcf with hcf | hcf
    · have h1 := List.all_eq_true.1 hcf i (List.mem_range.2 hi)
      simp only [hS i (Nat.le_of_lt hi), hS (i + 1) hi] at h1
      have := List.all_eq_true.1 h1 b hb
      simp at this
      simp only [List.getD] at hbn
      omega
    · have h1 := List.all_eq_true.1 hcf i (List.mem_range.2 hi)
      simp only [hS i (Nat.le_of_lt hi), hS (i + 1) hi] at h1
      have h2 := List.all_eq_true.1 h1 b hb
      rw [Bool.or_eq_true] at h2
      rcases h2 with h2 | h2
      · have := of_decide_eq_true h2; omega
      · simp only [Bool.and_eq_true] at h2
        obtain ⟨h3, h4, h5⟩ := h2
        refine ⟨fun h => by rw [h] at h3; simp at h3, accB_spec hS (Nat.le_of_lt hi) h4, fun k hk hki hrd => ?_⟩
        have h6 := List.all_eq_true.1 h5 k (List.mem_range.2 hk)
        simp only [Bool.or_eq_true, beq_iff_eq, Bool.not_eq_true'] at h6
        rcases h6 with h6 | h6 | h6
        · exact absurd h6 hki
        · obtain ⟨o, ho⟩ := get_lt hk
          unfold rdB at h6
          simp only [ho, hS k (Nat.le_of_lt hk)] at h6
          rw [accB_of hS (Nat.le_of_lt hk) (fun j hj => hlt k j hk hj) hrd.1, Bool.true_and] at h6
          cases hli : lightO o.op with
          | false => simp [hli] at h6
          | true =>
            have := hrd.2 o ho hli
            simp [hli] at h6
            exact absurd (by simpa using this) h6
        · exact h6

theorem world_drawn {P : Program} {μ : Map} {M : Store} {w : World} {d : Nat} (hR : Rel P μ M w) : Rel P μ M { w with drawn := d } :=
  ⟨hR.dom, fun b l h => (hR.obj b l h).keep (.refl _) (.refl _) fun _ => rfl, hR.excl⟩

theorem adraw_wp {P : Program} (hm : P.follows .mixedOrders = true) {call : ACall} (hc : CallOk P call) {id : Nat} {ops : Array Oper} (hd : drawOk ops = true) (hok : ∀ o ∈ ops, operOk o = true) {a a' : AAct} {M M' : Store} (h : adraw P call ops a M = some (a', M'))
    {μ : Map} {w : World} {ca : Act} (hR : Rel P μ M w) (hsz : ∀ t, a.t.has t = true ↔ t < ca.tmps.size) (ht : ∀ i : Nat, VRel P μ w.shape? (ca.tmps.getD i undef) (a.get i)) {ro : Option Nat} {Q : Exit → Act → World → Prop}
    (hQ : ∀ ca' μ' w', Step μ M w μ' M' w' → Rel P μ' M' w' → (∀ t, a'.t.has t = true ↔ t < ca'.tmps.size) → ca'.defers = ca.defers → (∀ i : Nat, VRel P μ' w'.shape? (ca'.tmps.getD i undef) (a'.get i)) → Q .normal ca' w') : (Code.region id ops true).wpIn (fen ro) 0 P Q ca w := by
  unfold adraw at h
  obtain ⟨L, h1, h⟩ := Option.bind_eq_some_iff.1 h
  split at h
  · rename_i hcf
    have H := trace_ok hc hd hok h1 hcf
    obtain ⟨_, h0, _⟩ := arun_spec _ _ _ _ h1
    have e0 : L.getD 0 (a, M) = (a, M) := by simp [List.getD, h0]
    have en : L.getD ops.size (a, M) = (a', M') := by simp [List.getD, h]
    refine wpIn_region_any hm ?_
    refine Inv.any H (df := ca.defers) (μ0 := μ) (w0 := { w with drawn := w.drawn + 1 }) (fun E μ' w' ca' hall I => ?_) ops.size _ μ _ ca (by simp) (by simp) (fun j k hj h => ?_) ?_
    · obtain ⟨q1, q2, q3⟩ := I.fin H hall
      have q4 := I.size
      have q4 : ∀ t, (L.getD ops.size (a, M)).1.t.has t = true ↔ t < ca'.tmps.size := fun t => by rw [H.size (Nat.le_refl _) t]; exact q4 t
      simp only [e0, en] at q1 q2 q3 q4
      exact hQ ca' μ' w' ⟨q1.le, q1.n, q1.size, q1.os, q1.tape, q1.output, q1.shp, q1.log⟩ q2 q4 I.defers q3
    · simp [Array.getD, hj] at h
    · have : (fun j => (Array.replicate ops.size false).getD j false = true) = fun _ => False := funext fun j => propext (by
        by_cases hj : j < ops.size <;> simp [Array.getD, hj])
      rw [this]
      exact Inv.init H (by simp only [e0]; exact world_drawn hR) (by simp only [e0]; exact hsz) rfl (by simp only [e0]; exact ht)
  · cases h
end

end Go.Ab
