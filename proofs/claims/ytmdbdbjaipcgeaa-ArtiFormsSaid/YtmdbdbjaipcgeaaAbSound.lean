/- What the abstract machine answers, the model does: code, calls, rounds. -/
import Derived.Test.YtmdbdbjaipcgeaaAbDraw
set_option linter.unusedVariables false
set_option linter.unusedSimpArgs false
namespace Go.Ab
open Go.RowKit

/-- The marks among deferred calls. -/
def DfRel (μ : Map) : List Deferred → List Deferred → Prop
  | [], [] => True
  | c :: cs, d :: ds => (∃ r k, d.target = .collected r ∧ μ r = some k ∧ c = { target := .collected k.b, args := #[] }) ∧ DfRel μ cs ds
  | _, _ => False
theorem DfRel.mono {μ μ' : Map} (hm : MLe μ μ') : ∀ {cs ds : List Deferred}, DfRel μ cs ds → DfRel μ' cs ds
  | [], [], _ => trivial
  | _ :: _, _ :: _, h => by
    obtain ⟨⟨r, k, h1, h2, h3⟩, h4⟩ := h
    exact ⟨⟨r, k, h1, hm _ _ h2, h3⟩, h4.mono hm⟩
  | [], _ :: _, h => h.elim
  | _ :: _, [], h => h.elim

structure ActRel (P : Program) (μ : Map) (sh : Shp) (ca : Act) (a : AAct) : Prop where
  size : ∀ t, a.t.has t = true ↔ t < ca.tmps.size
  defers : DfRel μ ca.defers a.defers
  tmps : ∀ i : Nat, VRel P μ sh (ca.tmps.getD i undef) (a.get i)

theorem ActRel.mono {P : Program} {μ μ' : Map} {sh sh' : Shp} {ca : Act} {a : AAct} (hm : MLe μ μ') (hs : SLe sh sh') (h : ActRel P μ sh ca a) : ActRel P μ' sh' ca a :=
  ⟨h.size, h.defers.mono hm, fun i => (h.tmps i).mono hm hs⟩
theorem ActRel.put {P : Program} {μ : Map} {sh : Shp} {ca : Act} {a : AAct} (h : ActRel P μ sh ca a) (d : Option Tmp) {cv v : Value} (hv : VRel P μ sh cv v) : ActRel P μ sh (ca.put d cv) (a.put d v) := by
  refine ⟨fun t => by rw [ahas_put, put_size]; exact h.size t, by simp [h.defers], fun i => ?_⟩
  rw [getD_put, aget_put]
  have := h.size i
  by_cases hq : d = some i ∧ i < ca.tmps.size
  · rw [if_pos hq, if_pos ⟨hq.1, this.2 hq.2⟩]; exact hv
  · rw [if_neg hq, if_neg fun hp => hq ⟨hp.1, this.1 hp.2⟩]; exact h.tmps i

/-- In which loop's round, if in any. -/
def RdRel (μ : Map) : Option Nat → Option Nat → Prop
  | none, none => True
  | some l, some b => ∃ k, μ l = some k ∧ k.b = b
  | _, _ => False
theorem RdRel.mono {μ μ' : Map} (hm : MLe μ μ') {l b : Option Nat} (h : RdRel μ l b) : RdRel μ' l b := by
  cases l <;> cases b <;> first
    | exact h
    | (obtain ⟨k, h1, h2⟩ := h; exact ⟨k, hm _ _ h1, h2⟩)

theorem aops_wp {P : Program} {call : ACall} (hcall : CallOk P call) {ro : Option Nat} {ops : Array Oper} : ∀ (l : List Oper) (a : AAct) (M : Store) (a' : AAct) (M' : Store), aops P call ops l a M = some (a', M') → (∀ o ∈ l, operOk o = true) →
    ∀ (μ : Map) (w : World) (ca : Act), Rel P μ M w → ActRel P μ w.shape? ca a → ∀ Q : Exit → Act → World → Prop,
      (∀ ca' μ' w', Step μ M w μ' M' w' → Rel P μ' M' w' → ActRel P μ' w'.shape? ca' a' → Q .normal ca' w') → wpListIn (fen ro) 0 P ops Q l ca w
  | [], a, M, a', M', h, _, μ, w, ca, hR, hA, Q, hQ => by
    simp only [aops] at h
    injection h with h; injection h with h h'; subst h; subst h'
    exact hQ ca μ w (.refl _ _ _) hR hA
  | o :: rest, a, M, a', M', h, hok, μ, w, ca, hR, hA, Q, hQ => by
    have hE := eval_at (ops := ops) (hok o (by simp)) fun d _ => hA.tmps d
    have next : ∀ (a1 : AAct) (M1 : Store) (μ1 : Map) (w1 : World) (ca1 : Act), aops P call ops rest a1 M1 = some (a', M') → Step μ M w μ1 M1 w1 → Rel P μ1 M1 w1 → ActRel P μ1 w1.shape? ca1 a1 → wpListIn (fen ro) 0 P ops Q rest ca1 w1 :=
      fun a1 M1 μ1 w1 ca1 h1 hS hR1 hA1 => aops_wp hcall rest a1 M1 a' M' h1 (fun o ho => hok o (by simp [ho])) μ1 w1 ca1 hR1 hA1 Q fun ca' μ' w' hS' hR' hA' => hQ ca' μ' w' (hS.trans hR.dom hS') hR' hA'
    simp only [aops] at h
    unfold wpListIn
    rw [wanted_at hA.size ops o fun d _ => hA.tmps d]
    split at h
    · rename_i hw
      rw [if_pos hw]
      split at h
      · rename_i v M1 h1
        have hN := aop_run hR hE h1
        obtain ⟨cv, w', hr, μ', hR', hS', hv'⟩ := hN
        have hn := next _ _ μ' w' (ca.put o.dst cv) h hS' hR' ((hA.mono hS'.le hS'.shp).put o.dst hv')
        rcases hr with hr | ⟨hr, rfl⟩
        · exact wpIn_value (aop_nodefer h1) hr hn
        · exact wpIn_skipped (aop_nodefer h1) hr hn
      · rename_i g f args M1 h1
        have hN := aop_run hR hE h1
        split at h
        · rename_i v M2 h2
          refine wpIn_called hcall (aop_nodefer h1) hR hN h2 fun cv w' hM => ?_
          obtain ⟨μ', hR', hS', hv'⟩ := hM
          exact next _ _ μ' w' (ca.put o.dst cv) h hS' hR' ((hA.mono hS'.le hS'.shp).put o.dst hv')
        · cases h
      · cases h
    · rename_i hw
      rw [if_neg hw]
      exact ⟨fun _ _ => trivial, next _ _ μ w (ca.put o.dst undef) h (.refl _ _ _) hR (hA.put o.dst VRel.undef)⟩

theorem arun_defers {P : Program} {call : ACall} {ops : Array Oper} : ∀ (l : List Oper) (a : AAct) (M : Store) (L : List (AAct × Store)), arun P call ops l a M = some L → ∀ (i : Nat) (s : AAct × Store), L[i]? = some s → s.1.defers = a.defers
  | [], a, M, L, h, i, s, hs => by
    simp only [arun] at h
    injection h with h; subst h
    cases i with
    | zero => simp at hs; subst hs; rfl
    | succ i => simp at hs
  | o :: r, a, M, L, h, i, s, hs => by
    simp only [arun] at h
    split at h
    · rename_i a' M' h1
      obtain ⟨L', h2, h⟩ := Option.bind_eq_some_iff.1 h
      injection h with h; subst h
      obtain ⟨v, hv⟩ := astep_act h1
      cases i with
      | zero => simp at hs; subst hs; rfl
      | succ i => rw [arun_defers r a' M' L' h2 i s (by simpa using hs), hv, adefers_put]
    · cases h

def exitOf : AExit → Exit
  | 0 => .normal
  | 1 => .ret
  | n + 2 => .exit n

theorem then_ne {K : Act → World → Prop} {Q : Exit → Act → World → Prop} {e : AExit} (h : e ≠ 0) {a : Act} {w : World} : Exit.then K Q (exitOf e) a w = Q (exitOf e) a w := by
  match e with
  | 0 => exact absurd rfl h
  | 1 => rfl
  | n + 2 => rfl

/-- Behind what the abstract machine's code comes to, Q. -/
def CodeOk (P : Program) (rd : Option Nat) (c : Code) (f : AAct → Store → Option (AExit × AAct × Store)) : Prop :=
  ∀ a M e a' M', f a M = some (e, a', M') → ∀ (μ : Map) (w : World) (ca : Act) (ro : Option Nat), RdRel μ rd ro → Rel P μ M w → ActRel P μ w.shape? ca a → ∀ Q : Exit → Act → World → Prop,
    (∀ ca' μ' w', Step μ M w μ' M' w' → Rel P μ' M' w' → ActRel P μ' w'.shape? ca' a' → Q (exitOf e) ca' w') → c.wpIn (fen ro) 0 P Q ca w

theorem loop_wp {P : Program} {rd : Option Nat} {c : Code} {f : AAct → Store → Option (AExit × AAct × Store)} (hf : CodeOk P rd c f) (n : Nat) : CodeOk P rd (.loop c) (aloop f n) := by
  intro a M e a' M' h μ w ca ro hro hR hA Q hQ
  refine wpIn_loop_rounds n ?_
  induction n generalizing a M μ w ca with
  | zero => cases h
  | succ n ih =>
    rw [roundsIn_succ]
    simp only [aloop] at h
    split at h
    · rename_i a1 M1 h1
      refine hf a M 0 a1 M1 h1 μ w ca ro hro hR hA _ fun ca1 μ1 w1 hS1 hR1 hA1 => ?_
      show Code.roundsIn (fen ro) 0 P c Q n ca1 w1
      exact ih a1 M1 h μ1 w1 ca1 (hro.mono hS1.le) hR1 hA1 fun ca' μ' w' hS' hR' hA' => hQ ca' μ' w' (hS1.trans hR.dom hS') hR' hA'
    · rename_i hne
      refine hf a M e a' M' h μ w ca ro hro hR hA _ fun ca1 μ1 w1 hS1 hR1 hA1 => ?_
      have he : e ≠ 0 := by
        rintro rfl
        exact hne a' M' h
      rw [then_ne he]
      exact hQ ca1 μ1 w1 hS1 hR1 hA1

theorem recOf_some {M : Store} {l : Nat} {r : LRec} (h : recOf M l = some r) : M.get l = some (.inr (.inr (some r))) := by
  unfold recOf at h
  split at h
  · rename_i r' hr; injection h with h; subst h; exact hr
  · cases h

theorem rec_block {P : Program} {μ : Map} {M : Store} {w : World} (hR : Rel P μ M w) {l : Nat} {k : Loc} (hl : μ l = some k) {r : LRec} (h : recOf M l = some r) : k.own = true ∧ ∃ q : Loop, w.heap[k.b]? = some (.loop q) ∧ RecRel P μ w.shape? q r := by
  have := hR.obj l k hl
  rw [recOf_some h] at this
  exact this

theorem wrote_put {w : World} {b : Nat} {o o' : Obj} (h : w.heap[b]? = some o) (ho : ∀ c e fr, o ≠ .cells c e fr) (ho' : ∀ c e fr, o' ≠ .cells c e fr) : WroteB w (w.putObj b o') b := by
  refine ⟨fun k hk => World.putObj_heap_other hk, World.putObj_size, ?_, rfl, rfl, rfl⟩
  have hlt := (Array.getElem?_eq_some_iff.1 h).1
  unfold World.shape?
  rw [World.putObj_heap_same hlt, h]
  cases o <;> cases o' <;> first
    | rfl
    | exact absurd rfl (ho _ _ _)
    | exact absurd rfl (ho' _ _ _)

/-- A loop's record is written. -/
theorem rec_put {P : Program} {μ : Map} {M : Store} {w : World} (hR : Rel P μ M w) {l : Nat} {k : Loc} (hl : μ l = some k) {r : LRec} (h : recOf M l = some r) {q q' : Loop} (hq : w.heap[k.b]? = some (.loop q)) {r' : LRec} (hr : RecRel P μ w.shape? q' r') :
    Rel P μ (putRec M l r') (w.putObj k.b (.loop q')) ∧ Step μ M w μ (putRec M l r') (w.putObj k.b (.loop q')) := by
  obtain ⟨ho, _⟩ := rec_block hR hl h
  have hw := wrote_put (o' := .loop q') hq (by simp) (by simp)
  exact rel_set hR hl (recOf_some h) ho hw _ ⟨ho, q', World.putObj_heap_same (Array.getElem?_eq_some_iff.1 hq).1, hr.mono (.refl _) hw.sle⟩

theorem aops_grow {P : Program} {call : ACall} (hc : CallOk P call) {ops : Array Oper} : ∀ (l : List Oper) (a : AAct) (M : Store) (a' : AAct) (M' : Store), aops P call ops l a M = some (a', M') → Grow M M'
  | [], a, M, a', M', h => by
    simp only [aops] at h
    injection h with h; injection h with h h'; subst h'; exact .refl M
  | o :: rest, a, M, a', M', h => by
    simp only [aops] at h
    split at h
    · split at h
      · rename_i v M1 h1
        exact (aop_grow h1).trans (aops_grow hc rest _ M1 a' M' h)
      · rename_i g f args M1 h1
        split at h
        · rename_i v M2 h2
          exact ((aop_grow h1).trans (hc.grow h2)).trans (aops_grow hc rest _ M2 a' M' h)
        · cases h
      · cases h
    · exact aops_grow hc rest _ M a' M' h

theorem arun_grow {P : Program} {call : ACall} (hc : CallOk P call) {ops : Array Oper} : ∀ (l : List Oper) (a : AAct) (M : Store) (L : List (AAct × Store)), arun P call ops l a M = some L → ∀ (i : Nat) (s : AAct × Store), L[i]? = some s → Grow M s.2
  | [], a, M, L, h, i, s, hs => by
    simp only [arun] at h
    injection h with h; subst h
    cases i with
    | zero => simp at hs; subst hs; exact .refl M
    | succ i => simp at hs
  | o :: r, a, M, L, h, i, s, hs => by
    simp only [arun] at h
    split at h
    · rename_i a' M' h1
      obtain ⟨L', h2, h⟩ := Option.bind_eq_some_iff.1 h
      injection h with h; subst h
      cases i with
      | zero => simp at hs; subst hs; exact .refl M
      | succ i => exact (astep_grow hc h1).trans (arun_grow hc r a' M' L' h2 i s (by simpa using hs))
    · cases h

def CodeGrow (f : AAct → Store → Option (AExit × AAct × Store)) : Prop := ∀ a M e a' M', f a M = some (e, a', M') → Grow M M'
theorem aloop_grow {f : AAct → Store → Option (AExit × AAct × Store)} (hf : CodeGrow f) (n : Nat) : CodeGrow (aloop f n) := by
  induction n with
  | zero => intro a M e a' M' h; cases h
  | succ n ih =>
    intro a M e a' M' h
    simp only [aloop] at h
    split at h
    · rename_i a1 M1 h1
      exact (hf a M 0 a1 M1 h1).trans (ih a1 M1 e a' M' h)
    · exact hf a M e a' M' h
theorem aenter_grow {rd : Option Nat} {ps : Array Tmp} {x y : Code} {a : AAct} {M : Store} {s : AAct × Store} (h : aenter rd ps x y a M = some s) : Grow M s.2 := by
  unfold aenter at h
  split at h
  · injection h with h; subst h; exact (Grow.push _ _).trans (.push _ _)
  · obtain ⟨_, _, h⟩ := Option.bind_eq_some_iff.1 h
    injection h with h; subst h; exact .push _ _
theorem acode_grow {P : Program} {call : ACall} (hc : CallOk P call) (k : Nat) (rd : Option Nat) : ∀ c : Code, CodeGrow (acode P call k rd c)
  | .skip => fun a M e a' M' h => by simp only [acode] at h; injection h with h; injection h with h h'; injection h' with h' h''; subst h''; exact .refl M
  | .region id ops draw => fun a M e a' M' h => by
    simp only [acode] at h
    obtain ⟨⟨a1, M1⟩, h1, h⟩ := bind_some h
    injection h with h h'; injection h' with h' h''; subst h; subst h'; subst h''
    split at h1
    · unfold adraw at h1
      obtain ⟨L, h2, h1⟩ := Option.bind_eq_some_iff.1 h1
      split at h1
      · exact arun_grow hc _ a M L h2 _ _ h1
      · cases h1
    · exact aops_grow hc _ a M _ _ h1
  | .seq x y => fun a M e a' M' h => by
    simp only [acode] at h
    split at h
    · rename_i a1 M1 h1
      exact (acode_grow hc k rd x a M 0 a1 M1 h1).trans (acode_grow hc k rd y a1 M1 e a' M' h)
    · exact acode_grow hc k rd x a M e a' M' h
  | .cond c x y => fun a M e a' M' h => by
    simp only [acode] at h
    split at h
    · rename_i t _
      cases t with
      | true => exact acode_grow hc k rd x a M e a' M' h
      | false => exact acode_grow hc k rd y a M e a' M' h
    · cases h
  | .block id c => fun a M e a' M' h => by
    simp only [acode] at h
    split at h
    · rename_i e1 a1 M1 h1
      injection h with h; injection h with h h'; injection h' with h' h''; subst h''
      exact acode_grow hc k rd c a M e1 a1 M1 h1
    · cases h
  | .loop c => by exact aloop_grow (acode_grow hc k rd c) k
  | .exit id => fun a M e a' M' h => by simp only [acode] at h; injection h with h; injection h with h h'; injection h' with h' h''; subst h''; exact .refl M
  | .ret => fun a M e a' M' h => by simp only [acode] at h; injection h with h; injection h with h h'; injection h' with h' h''; subst h''; exact .refl M
  | .rangeFunc g ps x y => fun a M e a' M' h => by
    simp only [acode] at h
    split at h
    · obtain ⟨s, h1, h⟩ := Option.bind_eq_some_iff.1 h
      obtain ⟨q, h2, h⟩ := Option.bind_eq_some_iff.1 h
      obtain ⟨r, h3, h⟩ := Option.bind_eq_some_iff.1 h
      split at h
      · cases h
      · injection h with h; injection h with h h'; injection h' with h' h''; subst h''
        exact ((aenter_grow h1).trans (hc.grow h2)).trans (.set _ _ _)
    · cases h
  | .scope _ => fun a M e a' M' h => by simp [acode] at h
  | .label _ => fun a M e a' M' h => by simp [acode] at h
  | .goto _ => fun a M e a' M' h => by simp [acode] at h
  | .refuse _ => fun a M e a' M' h => by simp [acode] at h

/-- A range over a function begins. -/
theorem aenter_run {P : Program} {rd ro : Option Nat} {ps : Array Tmp} {x y : Code} (hx : codeOk x = true) (hy : codeOk y = true) {a : AAct} {ca : Act} {M : Store} {s : AAct × Store} (h : aenter rd ps x y a M = some s) {μ : Map} {w : World} (hro : RdRel μ rd ro) (hR : Rel P μ M w) (hA : ActRel P μ w.shape? ca a) (fn : FuncId) :
    ∃ l mark w1 μ1 k, (Instr.enterLoop fn ca.tmps ps x y ro).run P w = .ok (l, mark) w1 ∧ μ1 (s.2.n - 1) = some k ∧ k.b = l ∧ Rel P μ1 s.2 w1 ∧ Step μ M w μ1 s.2 w1 ∧ ActRel P μ1 w1.shape? { ca with defers := mark ++ ca.defers } s.1 := by
  cases rd with
  | none =>
    cases ro with
    | some b => exact hro.elim
    | none =>
      simp only [aenter] at h
      injection h with h; subst h
      have hN := newB_alloc w (.deferred (some []))
      obtain ⟨R1, S1⟩ := rel_new hR hN (some (.inr (.inr none))) ⟨rfl, World.alloc_heap_new w _⟩
      have hsz : (w.alloc (.deferred (some []))).heap.size = w.heap.size + 1 := by simp
      have hN2 := newB_alloc (w.alloc (.deferred (some []))) (.loop { state := .ready, pending := none, fn, tmps := ca.tmps, params := ps, assign := x, body := y, defers := w.heap.size })
      have hle2 := MLe.upd (i := (M.push (some (.inr (.inr none)))).n) (l := ⟨(w.alloc (.deferred (some []))).heap.size, 0, true⟩) R1.fresh
      obtain ⟨R2, S2⟩ := rel_new R1 hN2 (some (.inr (.inr (some ⟨.ready, 0, a.t, ps, x, y⟩)))) ⟨rfl, _, World.alloc_heap_new _ _,
        ⟨rfl, rfl, rfl, rfl, rfl, hA.size, fun i => ((hA.tmps i).mono S1.le S1.shp).mono hle2 (shp_push hN2.heap), hx, hy⟩⟩
      have S := S1.trans hR.dom S2
      refine ⟨_, _, _, _, _, run_enterLoop_outer fn ca.tmps ps x y, upd_eq _ _ _, ?_, R2, S, hA.size, ⟨⟨M.n, ⟨w.heap.size, 0, true⟩, rfl, ?_, rfl⟩, hA.defers.mono S.le⟩, fun i => (hA.tmps i).mono S.le S.shp⟩
      · exact hsz
      · exact S2.le _ _ (upd_eq _ _ _)
  | some l0 =>
    cases ro with
    | none => exact hro.elim
    | some b =>
      obtain ⟨k0, hk0, rfl⟩ := hro
      simp only [aenter] at h
      obtain ⟨r0, hr0, h⟩ := Option.bind_eq_some_iff.1 h
      injection h with h; subst h
      obtain ⟨_, q0, hq0, _⟩ := rec_block hR hk0 hr0
      have hN := newB_alloc w (.loop { state := .ready, pending := none, fn, tmps := ca.tmps, params := ps, assign := x, body := y, defers := q0.defers })
      have hle := MLe.upd (i := M.n) (l := ⟨w.heap.size, 0, true⟩) hR.fresh
      obtain ⟨R1, S1⟩ := rel_new hR hN (some (.inr (.inr (some ⟨.ready, 0, a.t, ps, x, y⟩)))) ⟨rfl, _, World.alloc_heap_new _ _,
        ⟨rfl, rfl, rfl, rfl, rfl, hA.size, fun i => (hA.tmps i).mono hle (shp_push hN.heap), hx, hy⟩⟩
      exact ⟨_, _, _, _, _, run_enterLoop_inner hq0 fn ca.tmps ps x y, upd_eq _ _ _, rfl, R1, S1, hA.size, hA.defers.mono S1.le, fun i => (hA.tmps i).mono S1.le S1.shp⟩

theorem acode_wp {P : Program} (hm : P.follows .mixedOrders = true) {call : ACall} (hcall : CallOk P call) (k : Nat) (rd : Option Nat) : ∀ c : Code, codeOk c = true → CodeOk P rd c (acode P call k rd c)
  | .skip, _ => fun a M e a' M' h μ w ca ro hro hR hA Q hQ => by
    simp only [acode] at h
    injection h with h; injection h with h h'; injection h' with h' h''; subst h; subst h'; subst h''
    exact wpIn_skip (hQ ca μ w (.refl _ _ _) hR hA)
  | .region id ops draw, hok => fun a M e a' M' h μ w ca ro hro hR hA Q hQ => by
    simp only [acode] at h
    simp only [codeOk, Bool.and_eq_true] at hok
    obtain ⟨⟨a1, M1⟩, h1, h⟩ := bind_some h
    injection h with h h'; injection h' with h' h''; subst h; subst h'; subst h''
    cases draw with
    | true =>
      rw [if_pos rfl] at h1
      have hdf : a1.defers = a.defers := by
        unfold adraw at h1
        obtain ⟨L, h2, h1⟩ := Option.bind_eq_some_iff.1 h1
        split at h1
        · exact arun_defers _ a M L h2 _ _ h1
        · cases h1
      exact adraw_wp hm hcall (by simpa using hok.2) (fun o ho => Array.all_eq_true_iff_forall_mem.1 hok.1 o ho) h1 hR hA.size hA.tmps fun ca' μ' w' hS' hR' h2 h3 h4 => hQ ca' μ' w' hS' hR' ⟨h2, by rw [h3, hdf]; exact hA.defers.mono hS'.le, h4⟩
    | false =>
      rw [if_neg (by simp)] at h1
      exact wpIn_region_list (aops_wp hcall ops.toList a M a1 M1 h1 (fun o ho => Array.all_eq_true_iff_forall_mem.1 hok.1 o (by simpa using ho)) μ w ca hR hA Q hQ)
  | .seq x y, hok => fun a M e a' M' h μ w ca ro hro hR hA Q hQ => by
    simp only [codeOk, Bool.and_eq_true] at hok
    simp only [acode] at h
    refine wpIn_seq ?_
    split at h
    · rename_i a1 M1 h1
      refine acode_wp hm hcall k rd x hok.1 a M 0 a1 M1 h1 μ w ca ro hro hR hA _ fun ca1 μ1 w1 hS1 hR1 hA1 => ?_
      show y.wpIn (fen ro) 0 P Q ca1 w1
      exact acode_wp hm hcall k rd y hok.2 a1 M1 e a' M' h μ1 w1 ca1 ro (hro.mono hS1.le) hR1 hA1 Q fun ca' μ' w' hS' hR' hA' => hQ ca' μ' w' (hS1.trans hR.dom hS') hR' hA'
    · rename_i hne
      refine acode_wp hm hcall k rd x hok.1 a M e a' M' h μ w ca ro hro hR hA _ fun ca1 μ1 w1 hS1 hR1 hA1 => ?_
      rw [then_ne (by rintro rfl; exact hne a' M' h)]
      exact hQ ca1 μ1 w1 hS1 hR1 hA1
  | .cond c x y, hok => fun a M e a' M' h μ w ca ro hro hR hA Q hQ => by
    simp only [codeOk, Bool.and_eq_true] at hok
    simp only [acode] at h
    split at h
    · rename_i t ht
      have hc := eval_rel hA.tmps hok.1.1
      rw [ht] at hc
      refine wpIn_cond hc.bool ?_
      cases t with
      | true => exact acode_wp hm hcall k rd x hok.1.2 a M e a' M' h μ w ca ro hro hR hA Q hQ
      | false => exact acode_wp hm hcall k rd y hok.2 a M e a' M' h μ w ca ro hro hR hA Q hQ
    · cases h
  | .block id c, hok => fun a M e a' M' h μ w ca ro hro hR hA Q hQ => by
    simp only [codeOk] at hok
    simp only [acode] at h
    split at h
    · rename_i e1 a1 M1 h1
      injection h with h; injection h with h h'; injection h' with h' h''; subst h'; subst h''
      refine wpIn_block (acode_wp hm hcall k rd c hok a M e1 a1 M1 h1 μ w ca ro hro hR hA _ fun ca1 μ1 w1 hS1 hR1 hA1 => ?_)
      have := hQ ca1 μ1 w1 hS1 hR1 hA1
      rw [← h] at this
      match e1 with
      | 0 => simpa [exitOf, Exit.inBlock] using this
      | 1 => simpa [exitOf, Exit.inBlock] using this
      | n + 2 =>
        simp only [exitOf, Exit.inBlock]
        by_cases hn : n = id
        · subst hn; simpa [exitOf] using this
        · rw [if_neg hn]; simpa [exitOf, hn] using this
    · cases h
  | .loop c, hok => by
    simp only [codeOk] at hok
    exact loop_wp (acode_wp hm hcall k rd c hok) k
  | .exit id, _ => fun a M e a' M' h μ w ca ro hro hR hA Q hQ => by
    simp only [acode] at h
    injection h with h; injection h with h h'; injection h' with h' h''; subst h; subst h'; subst h''
    exact wpIn_exit (hQ ca μ w (.refl _ _ _) hR hA)
  | .ret, _ => fun a M e a' M' h μ w ca ro hro hR hA Q hQ => by
    simp only [acode] at h
    injection h with h; injection h with h h'; injection h' with h' h''; subst h; subst h'; subst h''
    exact wpIn_ret (hQ ca μ w (.refl _ _ _) hR hA)
  | .rangeFunc g ps x y, hok => fun a M e a' M' h μ w ca ro hro hR hA Q hQ => by
    simp only [codeOk, Bool.and_eq_true] at hok
    simp only [acode] at h
    split at h
    · rename_i f first captured hg
      obtain ⟨s, h1, h⟩ := Option.bind_eq_some_iff.1 h
      obtain ⟨q, h2, h⟩ := Option.bind_eq_some_iff.1 h
      obtain ⟨r, h3, h⟩ := Option.bind_eq_some_iff.1 h
      split at h
      · cases h
      · rename_i hbusy
        injection h with h; injection h with h h'; injection h' with h' h''; subst h; subst h'; subst h''
        have hcg := eval_rel hA.tmps hok.1.1
        rw [hg] at hcg
        obtain ⟨fg, cf, cc, hcg', h0, q1, q2⟩ := hcg.func
        obtain rfl : fg = .func f := by cases fg <;> first | exact h0.elim | (obtain rfl : _ = _ := h0; rfl) | exact h0
        refine wpIn_rangeFunc fun fn _ => ?_
        obtain ⟨l, mark, w1, μ1, kl, he, hk, rfl, R1, S1, A1⟩ := aenter_run hok.1.2 hok.2 h1 hro hR hA fn
        obtain ⟨⟨⟨fn', c', hf', hb', hn'⟩, _⟩, hcc⟩ := hcall.fn f _ s.2 q.1 q.2 h2
        have hargs : LRel (VRel P μ1 w1.shape?) (cf ++ #[Value.func (.yield kl.b) #[] #[]] ++ cc).toList (first ++ #[Value.func (.yield (s.2.n - 1)) #[] #[]] ++ captured).toList := by
          simp only [Array.toList_append]
          exact ((q1.mono fun _ _ h => VRel.of_B (h.mono S1.le S1.shp)).append (LRel.cons (show VRel P μ1 w1.shape? (.func (.yield kl.b) #[] #[]) (.func (.yield (s.2.n - 1)) #[] #[]) from ⟨⟨kl, hk, rfl⟩, LRel.nil _, LRel.nil _⟩) (LRel.nil _))).append (q2.mono fun _ _ h => VRel.of_B (h.mono S1.le S1.shp))
        refine ⟨kl.b, mark, w1, { target := .fn (.func f) cc, args := cf ++ #[Value.func (.yield kl.b) #[] #[]] }, w1, f, cf ++ #[Value.func (.yield kl.b) #[] #[]] ++ cc, w1, he, ?_, fun _ _ => trivial, ?_, fun h => by simp [fen, Fence.wide] at h, ?_⟩
        · have e : ∀ c, (#[Operand.const c]).map ca.eval = #[c] := fun c => by simp [Act.eval]
          simp only [resolve, hcg', Deferred.ofValue, Sem.run_pure, e]
        · simp only [invoke]
          exact callFunc_run hf' hb' hn' _ _
        · refine (calls_fen ro (hcc μ1 w1 _ R1 hargs)).mono fun e' w2 he' => ?_
          obtain ⟨cv, rfl, μ2, R2, S2, _⟩ := he'
          have hk2 := S2.le _ _ hk
          obtain ⟨ho, ql, hql, hrr⟩ := rec_block R2 hk2 h3
          have hst : ql.state ≠ .busy := by
            rw [hrr.st]; intro hb; exact hbusy (by rw [hb]; rfl)
          obtain ⟨R3, S3⟩ := rec_put R2 hk2 h3 hql (q' := { ql with state := .exhausted }) (r' := { r with st := .exhausted }) ⟨rfl, hrr.pe, hrr.params, hrr.assign, hrr.body, hrr.size, hrr.tmps, hrr.ok⟩
          refine ⟨ql.pending, _, run_endLoop hql hst, ?_⟩
          have S : Step μ M w μ2 _ _ := (S1.trans hR.dom S2).trans hR.dom S3
          have fin := hQ { ca with defers := mark ++ ca.defers } μ2 _ S R3 (A1.mono (S2.le.trans S3.le) (S2.shp.trans S3.shp))
          rw [hrr.pe] at fin ⊢
          generalize r.pe = pe at fin ⊢
          match pe with
          | 0 => exact fin
          | 1 => exact wpIn_ret fin
          | n + 2 => exact wpIn_exit fin
    · cases h
  | .scope _, _ => fun a M e a' M' h => by simp [acode] at h
  | .label _, _ => fun a M e a' M' h => by simp [acode] at h
  | .goto _, _ => fun a M e a' M' h => by simp [acode] at h
  | .refuse _, _ => fun a M e a' M' h => by simp [acode] at h

theorem notTuple_ne {vs : List Value} (h : vs.all notTuple = true) : ∀ v ∈ vs, ∀ x, v ≠ .tuple x := by
  rintro v hv x rfl
  have := List.all_eq_true.1 h _ hv
  simp [notTuple] at this

/-- The marks are come to: their blocks are shut. -/
theorem leaves_take {P : Program} {fn : Func} {tmps : Array Value} {R : Ending → World → Prop} : ∀ (ds cs : List Deferred) (M M' : Store), atake ds M = some M' → ∀ (μ : Map) (w : World), DfRel μ cs ds → Rel P μ M w →
    (∀ w', Step μ M w μ M' w' → Rel P μ M' w' → ∃ v, (results fn tmps).run P w' = .ok v w' ∧ R (.returned v) w') → LeavesInM (fen none) 0 P fn tmps R cs .returning w
  | [], [], M, M', h, μ, w, _, hR, hQ => by
    simp only [atake] at h
    injection h with h; subst h
    exact hQ w (.refl _ _ _) hR
  | d :: ds, c :: cs, M, M', h, μ, w, hd, hR, hQ => by
    obtain ⟨⟨r, k, h1, h2, rfl⟩, h3⟩ := hd
    simp only [atake, h1] at h
    split at h
    · rename_i hg
      have hb := hR.obj r k h2
      rw [hg] at hb
      obtain ⟨ho, hb⟩ := hb
      have hw := wrote_put (o' := .deferred none) hb (by simp) (by simp)
      obtain ⟨R1, S1⟩ := rel_set hR h2 hg ho hw none trivial
      refine ⟨by simp, .inl ⟨k.b, _, rfl, run_takeDeferred hb, ?_⟩⟩
      exact leaves_take ds cs _ M' h μ _ h3 R1 fun w' S2 R2 => hQ w' (S1.trans hR.dom S2) R2
    · cases h
  | [], _ :: _, _, _, _, _, _, hd, _, _ => hd.elim
  | _ :: _, [], _, _, _, _, _, hd, _, _ => hd.elim
theorem atake_grow : ∀ (ds : List Deferred) (M M' : Store), atake ds M = some M' → Grow M M'
  | [], M, M', h => by
    simp only [atake] at h
    injection h with h; subst h; exact .refl M
  | d :: ds, M, M', h => by
    simp only [atake] at h
    split at h
    · split at h
      · exact (Grow.set _ _ _).trans (atake_grow ds _ M' h)
      · cases h
    · cases h

theorem fold_rel {P : Program} {μ : Map} {sh : Shp} : ∀ (ps : List Tmp) (cs as : List Value), LRel (VRel P μ sh) cs as → ∀ (ct : Array Value) (t : PT), (∀ i, t.has i = true ↔ i < ct.size) → (∀ i : Nat, VRel P μ sh (ct.getD i undef) (t.get i)) →
    (∀ i, ((ps.zip as).foldl (fun t pv => t.put pv.1 pv.2) t).has i = true ↔ i < ((ps.zip cs).foldl (fun t (p, v) => t.setIfInBounds p v) ct).size) ∧
    ∀ i : Nat, VRel P μ sh (((ps.zip cs).foldl (fun t (p, v) => t.setIfInBounds p v) ct).getD i undef) (((ps.zip as).foldl (fun t pv => t.put pv.1 pv.2) t).get i)
  | [], cs, as, _, ct, t, hs, ht => ⟨by simpa using hs, by simpa using ht⟩
  | p :: ps, [], [], _, ct, t, hs, ht => ⟨by simpa using hs, by simpa using ht⟩
  | p :: ps, c :: cs, a :: as, h, ct, t, hs, ht => by
    refine fold_rel ps cs as h.tail (ct.setIfInBounds p c) (t.put p a) (fun i => by rw [PT.has_put]; simpa using hs i) fun i => ?_
    have h1 := getD_put ⟨ct, []⟩ (some p) c i
    simp only [Act.put] at h1
    rw [h1, PT.get_put]
    have := hs i
    by_cases hq : p = i ∧ i < ct.size
    · rw [if_pos ⟨by rw [hq.1], hq.2⟩, if_pos ⟨hq.1, this.2 hq.2⟩]; exact h.head
    · rw [if_neg fun hp => hq ⟨by injection hp.1, hp.2⟩, if_neg fun hp => hq ⟨hp.1, this.1 hp.2⟩]; exact ht i
  | _ :: _, [], _ :: _, h, _, _, _, _ => by have := h.1; simp at this
  | _ :: _, _ :: _, [], h, _, _, _, _ => by have := h.1; simp at this

theorem enter_fold : ∀ (as : List Value) (k : Nat) (t : PT), (∀ j, j < k + as.length → t.has j = true) →
    (∀ i, ((as.foldl (fun (p : Nat × PT) v => (p.1 + 1, p.2.put p.1 v)) (k, t)).2.has i = t.has i)) ∧
    ∀ i, (as.foldl (fun (p : Nat × PT) v => (p.1 + 1, p.2.put p.1 v)) (k, t)).2.get i = if k ≤ i then (as[i - k]?).getD (t.get i) else t.get i
  | [], k, t, _ => ⟨fun _ => rfl, fun i => by simp⟩
  | a :: as, k, t, h => by
    obtain ⟨h1, h2⟩ := enter_fold as (k + 1) (t.put k a) (fun j hj => by rw [PT.has_put]; exact h j (by simp; omega))
    refine ⟨fun i => by rw [List.foldl_cons, h1, PT.has_put], fun i => ?_⟩
    rw [List.foldl_cons, h2, PT.get_put]
    by_cases hk : k + 1 ≤ i
    · have hki : ¬ (k = i ∧ t.has i = true) := fun q => by have := q.1; omega
      rw [if_pos hk, if_neg hki, if_pos (show k ≤ i by omega)]
      have : i - k = (i - (k + 1)) + 1 := by omega
      rw [this, List.getElem?_cons_succ]
    · rw [if_neg hk]
      by_cases hi : k = i
      · subst hi
        rw [if_pos ⟨rfl, h k (by simp)⟩, if_pos (Nat.le_refl _)]; simp
      · rw [if_neg (fun q => hi q.1), if_neg (by omega)]

/-- The temporaries as a call begins. -/
theorem enter_rel {P : Program} {μ : Map} {sh : Shp} {cargs args : Array Value} (n : Nat) (hargs : LRel (VRel P μ sh) cargs.toList args.toList) :
    ActRel P μ sh ⟨cargs ++ Array.replicate (n - cargs.size) undef, []⟩ (AAct.enter n args.toList) := by
  have hsz : cargs.size = args.size := by simpa using hargs.1
  have hfill := PT.has_fill (max n args.size) (max n args.size)
  obtain ⟨h1, h2⟩ := enter_fold args.toList 0 (PT.fill (max n args.size) (max n args.size)) (fun j hj => (hfill j (Nat.le_refl _)).2 (by simp at hj; omega))
  refine ⟨fun t => ?_, trivial, fun i => ?_⟩
  · show ((args.toList.foldl (fun (p : Nat × PT) v => (p.1 + 1, p.2.put p.1 v)) (0, PT.fill (max n args.toList.length) (max n args.toList.length))).2.has t = true ↔ _)
    rw [Array.length_toList, h1, hfill t (Nat.le_refl _)]
    simp only [Array.size_append, Array.size_replicate]
    omega
  · show VRel P μ sh _ ((args.toList.foldl (fun (p : Nat × PT) v => (p.1 + 1, p.2.put p.1 v)) (0, PT.fill (max n args.toList.length) (max n args.toList.length))).2.get i)
    rw [Array.length_toList, h2, if_pos (Nat.zero_le _), PT.get_fill, Nat.sub_zero]
    rw [Array.getD_eq_getD_getElem?, Array.getElem?_append]
    by_cases hi : i < cargs.size
    · rw [if_pos hi, Array.getElem?_eq_getElem hi]
      have hi' : i < args.size := by omega
      rw [Array.getElem?_toList, Array.getElem?_eq_getElem hi']
      exact hargs.2 i _ _ (by simp [hi]) (by simp [hi'])
    · rw [if_neg hi, Array.getElem?_replicate, Array.getElem?_toList, Array.getElem?_eq_none (by omega)]
      split <;> exact VRel.undef

theorem acall_ok {P : Program} (hm : P.follows .mixedOrders = true) {ext : FuncId → Option (Array Value → Store → Option (Value × Store))} (hext : ∀ f g, ext f = some g → CallOk1 P f g)
    (hok : ∀ f fn c, P.funcs[f]? = some fn → ext f = none → fn.body = some c → codeOk c = true) : ∀ k, CallOk P (acall P ext k)
  | 0 => ⟨fun f args M v M' h => by simp [acall] at h, fun f args M v M' h => by simp [acall] at h⟩
  | k + 1 => by
    have ih := acall_ok hm hext hok k
    refine ⟨fun f args M v M' h => ?_, fun l args M v M' h => ?_⟩
    · simp only [acall] at h
      split at h
      · rename_i g hg
        exact hext f g hg args M v M' h
      · rename_i hg
        split at h
        · rename_i fn hf
          split at h
          · rename_i c hb
            split at h
            · cases h
            · rename_i hn
              simp only [Bool.not_eq_true] at hn
              refine ⟨⟨⟨fn, c, hf, hb, hn⟩, ?_⟩, fun μ w cargs hR hargs => ?_⟩
              · split at h
                · rename_i e a1 M1 h1
                  split at h
                  · obtain ⟨M2, h2, h⟩ := Option.bind_eq_some_iff.1 h
                    obtain ⟨vs, hvs, h⟩ := Option.bind_eq_some_iff.1 h
                    split at h
                    · injection h with h; injection h with h h'; subst h'
                      exact (acode_grow ih k none c _ M e a1 M1 h1).trans (atake_grow _ _ _ h2)
                    · cases h
                  · cases h
                · cases h
              split at h
              · rename_i e a1 M1 h1
                split at h
                · rename_i he
                  obtain ⟨M2, h2, h⟩ := Option.bind_eq_some_iff.1 h
                  obtain ⟨vs, hvs, h⟩ := Option.bind_eq_some_iff.1 h
                  split at h
                  · rename_i hnt
                    injection h with h; injection h with h h'; subst h; subst h'
                    have hA := enter_rel fn.ntmps hargs
                    refine fen_calls (ro := none) (callsIn_of_wp_marks hf hb trivial (acode_wp hm ih k none c (hok f fn c hf hg hb) _ M e a1 M1 h1 μ w _ none trivial hR hA _ fun ca' μ' w' hS' hR' hA' => ?_))
                    have fin : LeavesInM (fen none) 0 P fn ca'.tmps (fun e w' => ∃ cv, e = .returned cv ∧ Made P μ M w (atuple vs) M2 cv w') ca'.defers .returning w' := by
                      refine leaves_take _ _ _ _ h2 μ' w' hA'.defers hR' fun w2 S2 R2 => ?_
                      have hA2 : ∀ i : Nat, VRel P μ' w2.shape? (ca'.tmps.getD i undef) (a1.get i) := fun i => (hA'.tmps i).mono (.refl _) S2.shp
                      obtain ⟨us, hu1, hu2⟩ := ares_run R2 hA2 fn.results.toList vs hvs (notTuple_ne hnt)
                      have hm : (fn.results.mapM (resF ca'.tmps)).run P w2 = .ok us.toArray w2 := by
                        rw [Array.mapM_eq_mapM_toList]
                        simp only [Sem.run_map, hu1, Result.andThen_ok]
                      refine ⟨if h : us.toArray.size = 1 then us.toArray[0] else .tuple us.toArray, ?_, _, rfl, μ', R2, hS'.trans hR.dom S2, ?_⟩
                      · simp only [results_eq, Sem.run_bind, hm, Result.andThen_ok, Sem.run_pure]
                      · have hl := hu2.1
                        match us, vs, hl, hu2 with
                        | [], [], _, hu2 => rw [dif_neg (by simp)]; exact hu2
                        | [u], [v], _, hu2 => simpa [atuple] using VRel.of_D hu2.head
                        | u :: u' :: us, v :: v' :: vs, _, hu2 => rw [dif_neg (by simp)]; exact hu2
                    rcases Nat.le_one_iff_eq_zero_or_eq_one.1 he with rfl | rfl
                    · exact fin
                    · exact fin
                  · cases h
                · cases h
              · cases h
          · cases h
        · cases h
    · simp only [acall] at h
      obtain ⟨r, hr, h⟩ := Option.bind_eq_some_iff.1 h
      split at h
      · rename_i hsz
        split at h
        · rename_i a1 M1 h1
          obtain ⟨r1, hr1, h⟩ := Option.bind_eq_some_iff.1 h
          split at h
          · rename_i hrd
            obtain ⟨⟨e, a2, M2⟩, h2, h⟩ := Option.bind_eq_some_iff.1 h
            obtain ⟨r3, hr3, h⟩ := Option.bind_eq_some_iff.1 h
            injection h with h; injection h with h h'; subst h; subst h'
            refine ⟨(((acode_grow ih k _ _ _ M 0 a1 M1 h1).trans (.set _ _ _)).trans (acode_grow ih k _ _ _ _ e a2 M2 h2)).trans (.set _ _ _), fun μ w cargs kl hl hR hargs ro => ?_⟩
            obtain ⟨ho, q, hq, hqr⟩ := rec_block hR hl hr
            have hcs : cargs.size = args.size := by simpa using hargs.1
            refine ⟨q.fn, _, q.assign, q.body, run_yield hq (by rw [hcs, hsz, hqr.params]), roundIn_of_wpIn trivial ?_⟩
            show q.assign.wpIn (fen (some kl.b)) 0 P _ _ w
            rw [hqr.assign, hqr.body]
            have hf := fold_rel r.params.toList cargs.toList args.toList hargs q.tmps r.tmps hqr.size hqr.tmps
            have hz : ∀ (xs t : Array Value), (r.params.zip xs).foldl (fun t (p, v) => t.setIfInBounds p v) t = (r.params.toList.zip xs.toList).foldl (fun t (p, v) => t.setIfInBounds p v) t := by
              intro xs t
              rw [← Array.foldl_toList, Array.toList_zip]
            rw [hqr.params, hz]
            refine acode_wp hm ih k (some l) r.assign hqr.ok.1 _ M 0 a1 M1 h1 μ w ⟨(r.params.toList.zip cargs.toList).foldl (fun t (p, v) => t.setIfInBounds p v) q.tmps, []⟩ (some kl.b) ⟨kl, hl, rfl⟩ hR ⟨hf.1, trivial, hf.2⟩ _ fun ca1 μ1 w1 S1 R1 A1 => ?_
            have hl1 := S1.le _ _ hl
            obtain ⟨_, q1, hq1, hqr1⟩ := rec_block R1 hl1 hr1
            have hready : q1.state = .ready := by
              rw [hqr1.st]
              cases hs : r1.st <;> rw [hs] at hrd <;> first | rfl | exact absurd hrd (by decide)
            obtain ⟨R2, S2⟩ := rec_put R1 hl1 hr1 hq1 (q' := { q1 with state := .busy }) (r' := { r1 with st := .busy }) ⟨rfl, hqr1.pe, hqr1.params, hqr1.assign, hqr1.body, hqr1.size, hqr1.tmps, hqr1.ok⟩
            refine ⟨_, run_beginRound hq1 hready, ?_⟩
            refine acode_wp hm ih k (some l) r.body hqr.ok.2 a1 _ e a2 M2 h2 μ1 _ ca1 (some kl.b) ⟨kl, hl1, rfl⟩ R2 (A1.mono S2.le S2.shp) _ fun ca2 μ2 w2 S3 R3 A3 => ?_
            have hl3 := S3.le _ _ hl1
            obtain ⟨_, q3, hq3, hqr3⟩ := rec_block R3 hl3 hr3
            have hj : (jumpOf e).isNone = (e == 0) := by
              match e with
              | 0 => rfl
              | 1 => rfl
              | n + 2 => rfl
            obtain ⟨R4, S4⟩ := rec_put R3 hl3 hr3 hq3 (q' := { q3 with state := if (jumpOf e).isNone then .ready else .done, pending := jumpOf e }) (r' := { r3 with st := if e == 0 then .ready else .done, pe := e })
              ⟨by simp only [hj], rfl, hqr3.params, hqr3.assign, hqr3.body, hqr3.size, hqr3.tmps, hqr3.ok⟩
            have S : Step μ M w μ2 _ _ := ((S1.trans hR.dom S2).trans hR.dom S3).trans hR.dom S4
            have fin : ∃ v w', (Instr.endRound kl.b (jumpOf e)).run P w2 = .ok v w' ∧ (∃ cv, Ending.returned v = .returned cv ∧ Made P μ M w (.bool (e == 0)) (putRec M2 l { r3 with st := if e == 0 then .ready else .done, pe := e }) cv w') :=
              ⟨_, _, run_endRound (jumpOf e) hq3, _, rfl, μ2, R4, S, hj⟩
            match e, fin with
            | 0, fin => exact fin
            | 1, fin => exact fin
            | n + 2, fin => exact fin
          · cases h
        · cases h
      · cases h

end Go.Ab
