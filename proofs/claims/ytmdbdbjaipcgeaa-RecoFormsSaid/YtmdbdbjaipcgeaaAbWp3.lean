/- The proposition made along code suffices: regions in the text's order, regions whose order is drawn, jumps. -/
import Derived.Test.YtmdbdbjaipcgeaaAbWp2
set_option linter.unusedVariables false
set_option linter.unusedSimpArgs false
namespace Go.Ab

/-! ## operations one behind the other -/
def AO (P : Program) (E : Ext) (ops : Array Oper) (l : List Oper) (a : AAct) (M : Store) (K : AAct → Store → Prop) : Prop :=
  ∃ k a' M', aops P (acall P E k) ops l a M = some (a', M') ∧ K a' M'
theorem AO.append {P : Program} {E : Ext} {ops : Array Oper} : ∀ {l r : List Oper} {a : AAct} {M : Store} {K : AAct → Store → Prop}, AO P E ops l a M (fun a M => AO P E ops r a M K) → AO P E ops (l ++ r) a M K
  | [], r, a, M, K, h => by
    obtain ⟨k, a', M', h1, h2⟩ := h
    simp only [aops, Option.some.injEq, Prod.mk.injEq] at h1
    obtain ⟨rfl, rfl⟩ := h1
    exact h2
  | o :: l, r, a, M, K, h => by
    obtain ⟨k, a', M', h1, h2⟩ := h
    rw [aops_step] at h1
    obtain ⟨s, h3, h4⟩ := Option.bind_eq_some_iff.1 h1
    obtain ⟨k2, a2, M2, h5, h6⟩ := AO.append (l := l) (r := r) ⟨k, a', M', h4, h2⟩
    refine ⟨max k k2, a2, M2, ?_, h6⟩
    rw [List.cons_append, aops_step, astep_mono (acall_le P E (Nat.le_max_left k k2)) h3, Option.bind_some]
    exact aops_mono (acall_le P E (Nat.le_max_right k k2)) _ h5

theorem AO.mono {P : Program} {E : Ext} {ops : Array Oper} {l : List Oper} {a : AAct} {M : Store} {K K' : AAct → Store → Prop} (h : AO P E ops l a M K) (k : ∀ a M, K a M → K' a M) : AO P E ops l a M K' := by
  obtain ⟨n, a', M', h1, h2⟩ := h
  exact ⟨n, a', M', h1, k _ _ h2⟩

/-- One operation that is wanted: by so much fuel. -/
theorem OpRuns.step {P : Program} {E : Ext} {ops : Array Oper} {o : Oper} {a : AAct} {M : Store} {K : Value → Store → Prop} (hw : Region.wanted o (AAct.yielded ops a) = true) (h : OpRuns P E a.eval o.op M K) :
    ∃ k v M', astep P (acall P E k) ops o a M = some (a.put o.dst v, M') ∧ K v M' := by
  rcases h with ⟨v, M', h1, h2⟩ | ⟨g, f, args, M1, h1, k, v, M', h2, h3⟩
  · exact ⟨0, v, M', by rw [astep, if_pos hw, h1], h2⟩
  · exact ⟨k, v, M', by rw [astep, if_pos hw, h1]; simp only [h2], h3⟩
theorem AO.cons {P : Program} {E : Ext} {ops : Array Oper} {o : Oper} {l : List Oper} {a : AAct} {M : Store} {K : AAct → Store → Prop} (hw : Region.wanted o (AAct.yielded ops a) = true)
    (h : OpRuns P E a.eval o.op M fun v M' => AO P E ops l (a.put o.dst v) M' K) : AO P E ops (o :: l) a M K := by
  obtain ⟨k, v, M', h1, k2, a2, M2, h2, h3⟩ := h.step hw
  refine ⟨max k k2, a2, M2, ?_, h3⟩
  rw [aops_step, astep_mono (acall_le P E (Nat.le_max_left k k2)) h1, Option.bind_some]
  exact aops_mono (acall_le P E (Nat.le_max_right k k2)) _ h2
theorem AO.skip {P : Program} {E : Ext} {ops : Array Oper} {o : Oper} {l : List Oper} {a : AAct} {M : Store} {K : AAct → Store → Prop} (hw : Region.wanted o (AAct.yielded ops a) = false)
    (h : AO P E ops l (a.put o.dst undef) M K) : AO P E ops (o :: l) a M K := by
  obtain ⟨k, a', M', h1, h2⟩ := h
  refine ⟨k, a', M', ?_, h2⟩
  rw [aops_step, astep, if_neg (by rw [hw]; decide), Option.bind_some]
  exact h1

/-! ## groups: operations that hang on one condition -/
def gEq : Option (Nat × Bool) → Option (Nat × Bool) → Bool
  | none, none => true
  | some (i, b), some (j, c) => Nat.beq i j && (b == c)
  | _, _ => false
theorem gEq_eq {a b : Option (Nat × Bool)} (h : gEq a b = true) : a = b := by
  cases a <;> cases b <;> simp [gEq] at h
  · rfl
  · rename_i p q
    obtain ⟨h1, h2⟩ := h
    obtain ⟨i, b⟩ := p; obtain ⟨j, c⟩ := q
    simp only at h1 h2
    subst h1; subst h2
    rfl
abbrev Grp := Option (Nat × Bool) × List Oper
def groups : List Oper → List Grp
  | [] => []
  | o :: r => match groups r with
    | (g, l) :: q => bif gEq o.guard g then (g, o :: l) :: q else (o.guard, [o]) :: (g, l) :: q
    | [] => [(o.guard, [o])]
def flat : List Grp → List Oper
  | [] => []
  | (_, l) :: q => l ++ flat q
def grpOk (gs : List Grp) : Prop := ∀ g l, (g, l) ∈ gs → ∀ o ∈ l, o.guard = g
theorem groups_ok : ∀ l : List Oper, flat (groups l) = l ∧ grpOk (groups l)
  | [] => ⟨rfl, fun _ _ h => by cases h⟩
  | o :: r => by
    obtain ⟨h1, h2⟩ := groups_ok r
    unfold groups
    split
    · rename_i g l q hq
      rw [hq] at h1 h2
      cases hg : gEq o.guard g with
      | true =>
        refine ⟨by simp only [cond_true, flat, List.cons_append]; rw [show l ++ flat q = r from h1], ?_⟩
        intro g' l' hm o' ho'
        simp only [cond_true, List.mem_cons, Prod.mk.injEq] at hm
        rcases hm with ⟨rfl, rfl⟩ | hm
        · rcases List.mem_cons.1 ho' with rfl | ho'
          · exact gEq_eq hg
          · exact h2 _ _ List.mem_cons_self _ ho'
        · exact h2 _ _ (List.mem_cons_of_mem _ hm) _ ho'
      | false =>
        refine ⟨by simp only [cond_false, flat, List.cons_append, List.nil_append]; rw [show l ++ flat q = r from h1], ?_⟩
        intro g' l' hm o' ho'
        simp only [cond_false] at hm
        rcases List.mem_cons.1 hm with hm | hm
        · injection hm with e1 e2; subst e1; subst e2
          rcases List.mem_cons.1 ho' with rfl | ho'
          · rfl
          · cases ho'
        · exact h2 _ _ hm _ ho'
    · rename_i hq
      rw [hq] at h1
      refine ⟨by simp only [flat, List.cons_append, List.nil_append]; rw [show ([] : List Oper) = r from h1], ?_⟩
      intro g' l' hm o' ho'
      rcases List.mem_cons.1 hm with hm | hm
      · injection hm with e1 e2; subst e1; subst e2
        rcases List.mem_cons.1 ho' with rfl | ho'
        · rfl
        · cases ho'
      · cases hm

/-- Operations one behind the other, all wanted. -/
def krun (P : Program) (E : Ext) : List Oper → AAct → Store → (AAct → Store → Prop) → Prop
  | [], a, M, K => K a M
  | o :: r, a, M, K => kop P E a.eval o.op M fun v M' => krun P E r (a.put o.dst v) M' K
/-- None wanted. -/
def kskip : List Oper → AAct → AAct
  | [], a => a
  | o :: r, a => kskip r (a.put o.dst undef)
def noDst (d : Nat) : List Oper → Bool
  | [] => true
  | o :: r => (match o.dst with
    | none => true
    | some e => !Nat.beq e d) && noDst d r
def kgroups (P : Program) (E : Ext) (ops : Array Oper) : List Grp → AAct → Store → (AAct → Store → Prop) → Prop
  | [], a, M, K => K a M
  | (none, l) :: q, a, M, K => krun P E l a M fun a M => kgroups P E ops q a M K
  | (some (j, want), l) :: q, a, M, K => match (ops[j]?).bind (·.dst) with
    | none => False
    | some d => bif noDst d l then
        BRG (hasG ops j) (a.get d)
          (bif want then krun P E l (a.put (some d) (.bool true)) M fun a M => kgroups P E ops q a M K else kgroups P E ops q (kskip l (a.put (some d) (.bool true))) M K)
          (bif want then kgroups P E ops q (kskip l (a.put (some d) (.bool false))) M K else krun P E l (a.put (some d) (.bool false)) M fun a M => kgroups P E ops q a M K)
          (kgroups P E ops q (kskip l a) M K)
      else False

theorem put_same {a : AAct} {d : Nat} {b : Bool} (h : a.get d = .bool b) : a.put (some d) (.bool b) = a := by
  obtain ⟨⟨n, f⟩, ds⟩ := a
  simp only [AAct.get, PT.get] at h
  cases hb : Nat.blt d n with
  | false => rw [hb] at h; cases h
  | true =>
    rw [hb] at h
    simp only [cond_true] at h
    simp only [AAct.put, PT.put]
    congr 2
    funext j
    cases hj : Nat.beq j d with
    | false => rfl
    | true => rw [Nat.eq_of_beq_eq_true hj, h]; rfl

theorem krun_sound {P : Program} {E : Ext} {ops : Array Oper} (J : AAct → Prop) : ∀ (l : List Oper) (a : AAct) (M : Store) (K : AAct → Store → Prop),
    (∀ o ∈ l, ∀ a, J a → Region.wanted o (AAct.yielded ops a) = true ∧ ∀ v, J (a.put o.dst v)) → J a → krun P E l a M K → AO P E ops l a M K
  | [], a, M, K, _, _, h => ⟨0, a, M, rfl, h⟩
  | o :: l, a, M, K, hJ, ha, h => by
    have h1 := hJ o List.mem_cons_self a ha
    refine .cons h1.1 ?_
    have h2 := kop_sound h
    rcases h2 with ⟨v, M', e, hk⟩ | ⟨g, f, args, M1, e, k, v, M', hc, hk⟩
    · exact .inl ⟨v, M', e, krun_sound J l _ _ K (fun o ho => hJ o (List.mem_cons_of_mem _ ho)) (h1.2 v) hk⟩
    · exact .inr ⟨g, f, args, M1, e, k, v, M', hc, krun_sound J l _ _ K (fun o ho => hJ o (List.mem_cons_of_mem _ ho)) (h1.2 v) hk⟩

theorem noDst_mem {d : Nat} : ∀ {l : List Oper}, noDst d l = true → ∀ o ∈ l, o.dst ≠ some d
  | [], _, _, ho => by cases ho
  | o :: r, h, o', ho' => by
    simp only [noDst, Bool.and_eq_true] at h
    rcases List.mem_cons.1 ho' with rfl | ho'
    · intro e
      rw [e] at h
      simp at h
    · exact noDst_mem h.2 o' ho'

theorem kskip_sound {P : Program} {E : Ext} {ops : Array Oper} (J : AAct → Prop) : ∀ (l : List Oper) (a : AAct) (M : Store) (K : AAct → Store → Prop),
    (∀ o ∈ l, ∀ a, J a → Region.wanted o (AAct.yielded ops a) = false ∧ ∀ v, J (a.put o.dst v)) → J a → K (kskip l a) M → AO P E ops l a M K
  | [], a, M, K, _, _, h => ⟨0, a, M, rfl, h⟩
  | o :: l, a, M, K, hJ, ha, h => by
    have h1 := hJ o List.mem_cons_self a ha
    exact .skip h1.1 (kskip_sound J l _ _ K (fun o ho => hJ o (List.mem_cons_of_mem _ ho)) (h1.2 _) h)

theorem kgroups_sound {P : Program} {E : Ext} {ops : Array Oper} : ∀ (gs : List Grp) (a : AAct) (M : Store) (K : AAct → Store → Prop), grpOk gs → kgroups P E ops gs a M K → AO P E ops (flat gs) a M K
  | [], a, M, K, _, h => ⟨0, a, M, rfl, h⟩
  | (none, l) :: q, a, M, K, hg, h => by
    refine AO.append (AO.mono (krun_sound (fun _ => True) l a M _ (fun o ho a _ => ⟨?_, fun _ => trivial⟩) trivial h) ?_)
    · have := hg _ _ List.mem_cons_self o ho
      unfold Region.wanted; rw [this]
    · exact fun a M h => kgroups_sound q a M K (fun g l hm => hg g l (List.mem_cons_of_mem _ hm)) h
  | (some (j, want), l) :: q, a, M, K, hg, h => by
    have ih := fun a M h => kgroups_sound (P := P) (E := E) (ops := ops) q a M K (fun g l hm => hg g l (List.mem_cons_of_mem _ hm)) h
    simp only [kgroups] at h
    split at h
    · exact h.elim
    · rename_i d hd
      cases hn : noDst d l with
      | false => rw [hn] at h; exact h.elim
      | true =>
        rw [hn] at h
        simp only [cond_true] at h
        have hy : ∀ (b : Bool) (a : AAct), a.get d = .bool b → AAct.yielded ops a j = some b := fun b a ha => by
          simp only [AAct.yielded, hd]
          have : a.t.get d = .bool b := ha
          rw [this]
        have hJ : ∀ b : Bool, ∀ o ∈ l, ∀ a : AAct, a.get d = .bool b → ∀ v, (a.put o.dst v).get d = .bool b := fun b o ho a ha v => by
          rw [aget_put, if_neg (fun e => noDst_mem hn o ho e.1)]; exact ha
        have hw : ∀ b : Bool, ∀ o ∈ l, ∀ a : AAct, a.get d = .bool b → Region.wanted o (AAct.yielded ops a) = (b == want) := fun b o ho a ha => by
          have := hg _ _ List.mem_cons_self o ho
          unfold Region.wanted; rw [this]; simp only [hy b a ha]; cases b <;> cases want <;> rfl
        have main : ∀ b : Bool, a.get d = .bool b → (bif (b == want) then krun P E l a M fun a M => kgroups P E ops q a M K else kgroups P E ops q (kskip l a) M K) → AO P E ops (l ++ flat q) a M K := by
          intro b hb h
          refine AO.append ?_
          cases hbw : (b == want) with
          | true =>
            rw [hbw] at h
            exact (krun_sound (fun a => a.get d = .bool b) l a M _ (fun o ho a ha => ⟨by rw [hw b o ho a ha, hbw], hJ b o ho a ha⟩) hb h).mono ih
          | false =>
            rw [hbw] at h
            exact kskip_sound (fun a => a.get d = .bool b) l a M _ (fun o ho a ha => ⟨by rw [hw b o ho a ha, hbw], hJ b o ho a ha⟩) hb (ih _ _ h)
        rcases BRG_cases h with ⟨hb, h⟩ | ⟨hb, h⟩ | ⟨⟨u, hb⟩, h⟩
        · rw [put_same hb] at h
          refine main true hb ?_
          cases want <;> exact h
        · rw [put_same hb] at h
          refine main false hb ?_
          cases want <;> exact h
        · refine AO.append (kskip_sound (fun a => a.get d = .tuple u) l a M _ (fun o ho a ha => ⟨?_, fun v => ?_⟩) hb (ih _ _ h))
          · have := hg _ _ List.mem_cons_self o ho
            have hy : AAct.yielded ops a j = none := by
              simp only [AAct.yielded, hd]
              have : a.t.get d = .tuple u := ha
              rw [this]
            unfold Region.wanted; rw [this]; simp only [hy]; rfl
          · rw [aget_put, if_neg (fun e => noDst_mem hn o ho e.1)]; exact ha

/-! ## a region whose order is drawn -/
def pureO (o : Op) : Bool := match o with
  | .load _ _ | .convert _ _ _ | .slice _ _ _ _ _ | .lookup _ _ _ _ | .call _ => false
  | o => lightO o
theorem pureO_light {o : Op} (h : pureO o = true) : lightO o = true ∧ ∀ ρ, readIds ρ o = [] := by
  cases o <;> first | exact ⟨h, fun _ => rfl⟩ | (cases h; done)
/-- The i-th operation stands in order with each that reads. -/
def dstat (ops : Array Oper) (bs : List Nat) (i : Nat) : Bool := (List.range ops.size).all fun k => k == i || (match ops[k]? with
  | none => false
  | some o => pureO o.op || ((bs.getD i 0).testBit k || (bs.getD k 0).testBit i))
/-- What is touched is new, or was there and may be touched. -/
def TDx (bs Ns : List Nat) (i : Nat) (M M' : Store) : Prop := M.n ≤ M'.n ∧ ∀ b ∈ tdiff M M', M.n ≤ b ∨ ((M.get b).isSome = true ∧ accB bs Ns i b = true)
/-- The i-th operation stands in order with each that reads what the j-th made. -/
def statJ (ops : Array Oper) (bs : List Nat) (i j : Nat) : Bool := (List.range ops.size).all fun k => k == i || (match ops[k]? with
  | none => false
  | some o => pureO o.op || (((bs.getD i 0).testBit k || (bs.getD k 0).testBit i) || !(bs.getD k 0).testBit j))
def jl (ops : Array Oper) (bs : List Nat) (i : Nat) : List Nat := (List.range i).filter fun j => (bs.getD i 0).testBit j && statJ ops bs i j
/-- What is touched is new, or was made by one of some operations. -/
def TDj (js Ns : List Nat) (M M' : Store) : Prop := M.n ≤ M'.n ∧ ∀ b ∈ tdiff M M', M.n ≤ b ∨ ((M.get b).isSome = true ∧ ∃ j ∈ js, Ns.getD j 0 ≤ b ∧ b < Ns.getD (j + 1) 0)
def krunD (P : Program) (E : Ext) (ops : Array Oper) (bs : List Nat) : List Oper → Nat → List Nat → AAct → Store → (AAct → Store → Prop) → Prop
  | [], _, _, a, M, K => K a M
  | o :: r, i, Ns, a, M, K =>
    let run (a : AAct) : Prop := kop P E a.eval o.op M fun v M' =>
      bif lightO o.op then krunD P E ops bs r (i + 1) (Ns ++ [M'.n]) (a.put o.dst v) M' K
      else bif dstat ops bs i then (TDx bs Ns i M M' ∧ krunD P E ops bs r (i + 1) (Ns ++ [M'.n]) (a.put o.dst v) M' K)
      else (TDj (jl ops bs i) Ns M M' ∧ krunD P E ops bs r (i + 1) (Ns ++ [M'.n]) (a.put o.dst v) M' K)
    let skip (a : AAct) : Prop := krunD P E ops bs r (i + 1) (Ns ++ [M.n]) (a.put o.dst undef) M K
    match o.guard with
    | none => run a
    | some (j, want) => match (ops[j]?).bind (·.dst) with
      | none => False
      | some d => BRG (hasG ops j) (a.get d)
          (bif want then run (a.put (some d) (.bool true)) else skip (a.put (some d) (.bool true)))
          (bif want then skip (a.put (some d) (.bool false)) else run (a.put (some d) (.bool false)))
          (skip a)

theorem light_log {P : Program} {ρ : Operand → Value} {o : Op} {M M' : Store} {r : Sum Value (Bool × Nat × Array Value)} (hl : lightO o = true) (h : aop P ρ o M = some (r, M')) : (M.n ≤ M'.n ∧ tdiff M M' = []) ∧ ∃ v, r = .inl v := by
  obtain ⟨v, p, rfl, rfl, _⟩ := aop_light hl h
  refine ⟨?_, v, rfl⟩
  cases p <;> simp [tdiff, Store.pushO]

def StepOk (ops : Array Oper) (bs Ns : List Nat) (i : Nat) (o : Oper) (M M' : Store) : Prop :=
  bif lightO o.op then M.n ≤ M'.n ∧ tdiff M M' = [] else bif dstat ops bs i then TDx bs Ns i M M' else TDj (jl ops bs i) Ns M M'

theorem arun_head {P : Program} {c : ACall} {ops : Array Oper} {l : List Oper} {a : AAct} {M : Store} {L} (h : arun P c ops l a M = some L) : ∃ t, L = (a, M) :: t := by
  cases l with
  | nil => simp only [arun, Option.some.injEq] at h; exact ⟨[], h.symm⟩
  | cons o l =>
    rw [arun_cons] at h
    obtain ⟨s, _, h2⟩ := Option.bind_eq_some_iff.1 h
    obtain ⟨L1, _, h4⟩ := Option.bind_eq_some_iff.1 h2
    injection h4 with h4
    exact ⟨L1, h4.symm⟩

theorem wanted_at' {ops : Array Oper} {o : Oper} {a : AAct} {j d : Nat} {want b : Bool} (hg : o.guard = some (j, want)) (hd : (ops[j]?).bind (·.dst) = some d) (ha : a.get d = .bool b) : Region.wanted o (AAct.yielded ops a) = (b == want) := by
  have hy : AAct.yielded ops a j = some b := by
    simp only [AAct.yielded, hd]
    have : a.t.get d = .bool b := ha
    rw [this]
  unfold Region.wanted; rw [hg]; simp only [hy]; cases b <;> cases want <;> rfl

theorem tdiff_self (M : Store) : tdiff M M = [] := by simp [tdiff]
theorem stepOk_self (ops : Array Oper) (bs Ns : List Nat) (i : Nat) (o : Oper) (M : Store) : StepOk ops bs Ns i o M M := by
  unfold StepOk TDx TDj
  rw [tdiff_self]
  cases lightO o.op
  · cases dstat ops bs i
    · exact ⟨Nat.le_refl _, fun b hb => by cases hb⟩
    · exact ⟨Nat.le_refl _, fun b hb => by cases hb⟩
  · exact ⟨Nat.le_refl _, rfl⟩
theorem StepOk.n {ops : Array Oper} {bs Ns : List Nat} {i : Nat} {o : Oper} {M M' : Store} (h : StepOk ops bs Ns i o M M') : M.n ≤ M'.n := by
  unfold StepOk at h
  cases hl : lightO o.op
  · rw [hl] at h
    cases hd : dstat ops bs i
    · rw [hd] at h; exact h.1
    · rw [hd] at h; exact h.1
  · rw [hl] at h; exact h.1

def DRun (P : Program) (E : Ext) (ops : Array Oper) (bs : List Nat) (l : List Oper) (i : Nat) (Ns : List Nat) (a : AAct) (M : Store) (K : AAct → Store → Prop) : Prop :=
    ∃ k L a' M', arun P (acall P E k) ops l a M = some L ∧ L[l.length]? = some (a', M') ∧ K a' M' ∧
      ∀ (x : Nat) o s s', l[x]? = some o → L[x]? = some s → L[x + 1]? = some s' → StepOk ops bs (Ns ++ ((L.map (·.2.n)).drop 1).take x) (i + x) o s.2 s'.2

theorem krunD_sound {P : Program} {E : Ext} {ops : Array Oper} {bs : List Nat} : ∀ (l : List Oper) (i : Nat) (Ns : List Nat) (a : AAct) (M : Store) (K : AAct → Store → Prop), krunD P E ops bs l i Ns a M K →
    DRun P E ops bs l i Ns a M K
  | [], i, Ns, a, M, K, h => ⟨0, [(a, M)], a, M, rfl, rfl, h, fun x o s s' h => by simp at h⟩
  | o :: l, i, Ns, a, M, K, h => by
    have fin : ∀ k a1 M1, astep P (acall P E k) ops o a M = some (a1, M1) → krunD P E ops bs l (i + 1) (Ns ++ [M1.n]) a1 M1 K → StepOk ops bs Ns i o M M1 →
        DRun P E ops bs (o :: l) i Ns a M K := by
      intro k a1 M1 h1 hk hst
      obtain ⟨k2, L, a2, M2, h3, h4, h5, h6⟩ := krunD_sound l (i + 1) (Ns ++ [M1.n]) a1 M1 K hk
      obtain ⟨t, ht⟩ := arun_head h3
      refine ⟨max k k2, (a, M) :: L, a2, M2, ?_, by simpa using h4, h5, ?_⟩
      · rw [arun_cons, astep_mono (acall_le P E (Nat.le_max_left k k2)) h1, Option.bind_some, arun_mono (acall_le P E (Nat.le_max_right k k2)) _ h3]; rfl
      · intro x o' s s' ho hs hs'
        cases x with
        | zero =>
          simp only [List.getElem?_cons_zero, Option.some.injEq] at ho hs
          subst ho; subst hs
          simp only [Nat.zero_add, List.getElem?_cons_succ, ht, List.getElem?_cons_zero, Option.some.injEq] at hs'
          subst hs'
          simpa using hst
        | succ x =>
          simp only [List.getElem?_cons_succ] at ho hs hs'
          have := h6 x o' s s' ho hs hs'
          have e : Ns ++ [M1.n] ++ ((L.map (·.2.n)).drop 1).take x = Ns ++ ((((a, M) :: L).map (·.2.n)).drop 1).take (x + 1) := by
            rw [ht]; simp
          rw [e] at this
          have e2 : i + 1 + x = i + (x + 1) := by omega
          rw [e2] at this
          exact this
    have hrun : Region.wanted o (AAct.yielded ops a) = true → (kop P E a.eval o.op M fun v M' =>
        bif lightO o.op then krunD P E ops bs l (i + 1) (Ns ++ [M'.n]) (a.put o.dst v) M' K
        else bif dstat ops bs i then (TDx bs Ns i M M' ∧ krunD P E ops bs l (i + 1) (Ns ++ [M'.n]) (a.put o.dst v) M' K)
        else (TDj (jl ops bs i) Ns M M' ∧ krunD P E ops bs l (i + 1) (Ns ++ [M'.n]) (a.put o.dst v) M' K)) → DRun P E ops bs (o :: l) i Ns a M K := by
      intro hw h
      obtain ⟨k, v, M1, h1, h2⟩ := (kop_sound h).step hw
      refine fin k _ M1 h1 ?_ ?_
      · cases hl : lightO o.op with
        | true => rw [hl] at h2; exact h2
        | false =>
          rw [hl] at h2
          cases hd : dstat ops bs i with
          | true => rw [hd] at h2; exact h2.2
          | false => rw [hd] at h2; exact h2.2
      · unfold StepOk
        cases hl : lightO o.op with
        | true =>
          rw [astep, if_pos hw] at h1
          split at h1
          · rename_i v' M' he
            injection h1 with h1; injection h1 with _ h1; subst h1
            exact (light_log hl he).1
          · rename_i g f args M' he
            obtain ⟨_, v', hv⟩ := light_log hl he
            cases hv
          · cases h1
        | false =>
          rw [hl] at h2
          cases hd : dstat ops bs i with
          | true => rw [hd] at h2; exact h2.1
          | false => rw [hd] at h2; exact h2.1
    have hskip : Region.wanted o (AAct.yielded ops a) = false → krunD P E ops bs l (i + 1) (Ns ++ [M.n]) (a.put o.dst undef) M K → DRun P E ops bs (o :: l) i Ns a M K := by
      intro hw h
      exact fin 0 _ M (by rw [astep, if_neg (by rw [hw]; decide)]) h (stepOk_self _ _ _ _ _ _)
    simp only [krunD] at h
    cases hg : o.guard with
    | none =>
      rw [hg] at h
      exact hrun (by unfold Region.wanted; rw [hg]) h
    | some jw =>
      obtain ⟨j, want⟩ := jw
      rw [hg] at h
      simp only at h
      split at h
      · exact h.elim
      · rename_i d hd
        rcases BRG_cases h with ⟨hb, h⟩ | ⟨hb, h⟩ | ⟨⟨u, hb⟩, h⟩
        · rw [put_same hb] at h
          have hw := wanted_at' hg hd hb
          cases want with
          | true => exact hrun hw h
          | false => exact hskip hw h
        · rw [put_same hb] at h
          have hw := wanted_at' hg hd hb
          cases want with
          | true => exact hskip hw h
          | false => exact hrun hw h
        · refine hskip ?_ h
          have hy : AAct.yielded ops a j = none := by
            simp only [AAct.yielded, hd]
            have : a.t.get d = .tuple u := hb
            rw [this]
          unfold Region.wanted; rw [hg]; simp only [hy]; rfl

theorem getD_take {l : List Nat} {n j : Nat} (h : j < n) : (l.take n).getD j 0 = l.getD j 0 := by
  simp [List.getD_eq_getElem?_getD, List.getElem?_take, h]
theorem accB_take {bs l : List Nat} {i b : Nat} : accB bs (l.take (i + 1)) i b = accB bs l i b := by
  unfold accB
  rw [getD_take (by omega)]
  congr 1
  rw [Bool.eq_iff_iff, List.any_eq_true, List.any_eq_true]
  constructor <;> rintro ⟨j, hj, h⟩ <;> refine ⟨j, hj, ?_⟩ <;> rw [List.mem_range] at hj
  · rw [getD_take (by omega), getD_take (by omega)] at h; exact h
  · rw [getD_take (by omega), getD_take (by omega)]; exact h

theorem draw_sound {P : Program} {E : Ext} {ops : Array Oper} {a : AAct} {M : Store} {K : AAct → Store → Prop}
    (h : krunD P E ops (befs ops.toList []) ops.toList 0 [M.n] a M K) : ∃ k a' M', adraw P (acall P E k) ops a M = some (a', M') ∧ K a' M' := by
  obtain ⟨k, L, a', M', h1, h2, h3, h4⟩ := krunD_sound ops.toList 0 [M.n] a M K h
  refine ⟨k, a', M', ?_, h3⟩
  have hlen : ∀ (l : List Oper) {a M L}, arun P (acall P E k) ops l a M = some L → L.length = l.length + 1 := by
    intro l
    induction l with
    | nil => intro a M L h; simp only [arun, Option.some.injEq] at h; subst h; rfl
    | cons o l ih =>
      intro a M L h
      rw [arun_cons] at h
      obtain ⟨s, _, h2⟩ := Option.bind_eq_some_iff.1 h
      obtain ⟨L1, h3, h4⟩ := Option.bind_eq_some_iff.1 h2
      injection h4 with h4; subst h4
      rw [List.length_cons, ih h3, List.length_cons]
  have hL := hlen _ h1
  obtain ⟨t, ht⟩ := arun_head h1
  have hcf : cfOk ops L = true := by
    unfold cfOk
    rw [Bool.or_eq_true]
    refine .inr ?_
    simp only [List.all_eq_true, List.mem_range]
    intro i hi
    have hi1 : i < L.length := by rw [hL]; simp; omega
    have hi2 : i + 1 < L.length := by rw [hL]; simp; omega
    rw [List.getElem?_eq_getElem hi1, List.getElem?_eq_getElem hi2]
    simp only [List.all_eq_true]
    intro b hb
    have ho : ops.toList[i]? = some ops[i] := by simp [hi]
    have hs := h4 i ops[i] _ _ ho (List.getElem?_eq_getElem hi1) (List.getElem?_eq_getElem hi2)
    have e : [M.n] ++ ((L.map (·.2.n)).drop 1).take i = (L.map (·.2.n)).take (i + 1) := by rw [ht]; simp
    rw [e, Nat.zero_add] at hs
    unfold StepOk at hs
    rw [Bool.or_eq_true]
    -- the sizes grow
    have hmono : ∀ (n m : Nat), m + n < L.length → (L.map (·.2.n)).getD m 0 ≤ (L.map (·.2.n)).getD (m + n) 0 := by
      intro n
      induction n with
      | zero => intro m _; exact Nat.le_refl _
      | succ n ih =>
        intro m hm
        refine Nat.le_trans (ih m (by omega)) ?_
        have h1 : m + n < L.length := by omega
        have h2 : m + n + 1 < L.length := by omega
        have hlt : m + n < ops.size := by rw [hL] at h2; simpa using h2
        have hst := (h4 (m + n) ops[m + n] _ _ (by simp [hlt]) (List.getElem?_eq_getElem h1) (List.getElem?_eq_getElem h2)).n
        simp only [List.getD_eq_getElem?_getD, List.getElem?_map, ← Nat.add_assoc, List.getElem?_eq_getElem h1, List.getElem?_eq_getElem h2, Option.map_some, Option.getD_some]
        exact hst
    cases hl : lightO ops[i].op with
    | true => rw [hl] at hs; simp only [cond_true] at hs; rw [hs.2] at hb; cases hb
    | false =>
      rw [hl] at hs
      cases hd : dstat ops (befs ops.toList []) i with
      | false =>
        rw [hd] at hs
        rcases hs.2 b hb with h5 | ⟨h5, j, hj, h6, h7⟩
        · exact .inl (decide_eq_true h5)
        · refine .inr ?_
          unfold jl at hj
          rw [List.mem_filter, List.mem_range, Bool.and_eq_true] at hj
          obtain ⟨hji, hbit, hst⟩ := hj
          rw [getD_take (by omega)] at h6 h7
          simp only [Bool.and_eq_true, List.all_eq_true, List.mem_range, Bool.or_eq_true, Bool.not_eq_true']
          refine ⟨h5, ?_, fun q hq => ?_⟩
          · unfold accB
            rw [Bool.or_eq_true, List.any_eq_true]
            exact .inr ⟨j, List.mem_range.2 hji, by rw [hbit, decide_eq_true h6, decide_eq_true h7]; rfl⟩
          · unfold statJ at hst
            have h8 := List.all_eq_true.1 hst q (List.mem_range.2 hq)
            simp only [Bool.or_eq_true, Array.getElem?_eq_getElem hq, Bool.not_eq_true'] at h8
            rcases h8 with h8 | h8 | h8 | h8
            · exact .inl h8
            · refine .inr (.inl ?_)
              unfold rdB
              have hq1 : q < L.length := by rw [hL]; simp; omega
              rw [Array.getElem?_eq_getElem hq, List.getElem?_eq_getElem hq1]
              obtain ⟨h9, h10⟩ := pureO_light h8
              simp [h9, h10]
            · exact .inr (.inr h8)
            · refine .inr (.inl ?_)
              unfold rdB
              have hq1 : q < L.length := by rw [hL]; simp; omega
              rw [Array.getElem?_eq_getElem hq, List.getElem?_eq_getElem hq1]
              have hacc : accB (befs ops.toList []) (L.map (·.2.n)) q b = false := by
                rw [Bool.eq_false_iff]
                intro ha
                unfold accB at ha
                rw [Bool.or_eq_true, List.any_eq_true] at ha
                rcases ha with ha | ⟨j', hj', ha⟩
                · have h0 := hmono j 0 (by rw [hL]; simp; omega)
                  have := of_decide_eq_true ha
                  rw [Nat.zero_add] at h0
                  omega
                · rw [List.mem_range] at hj'
                  simp only [Bool.and_eq_true, decide_eq_true_eq] at ha
                  obtain ⟨a1, a2, a3⟩ := ha
                  have hjj : j' = j := by
                    rcases Nat.lt_trichotomy j' j with hlt | heq | hgt
                    · have := hmono (j - (j' + 1)) (j' + 1) (by rw [hL]; simp; omega)
                      rw [show j' + 1 + (j - (j' + 1)) = j by omega] at this
                      omega
                    · exact heq
                    · have := hmono (j' - (j + 1)) (j + 1) (by rw [hL]; simp; omega)
                      rw [show j + 1 + (j' - (j + 1)) = j' by omega] at this
                      omega
                  subst hjj
                  rw [h8] at a1; cases a1
              simp [hacc]
      | true =>
        rw [hd] at hs
        rcases hs.2 b hb with h5 | ⟨h5, h6⟩
        · exact .inl (decide_eq_true h5)
        · refine .inr ?_
          rw [accB_take] at h6
          simp only [Bool.and_eq_true, List.all_eq_true, List.mem_range, Bool.or_eq_true, Bool.not_eq_true']
          refine ⟨h5, h6, fun q hq => ?_⟩
          unfold dstat at hd
          have h7 := List.all_eq_true.1 hd q (List.mem_range.2 hq)
          simp only [Bool.or_eq_true, Array.getElem?_eq_getElem hq] at h7
          rcases h7 with h7 | h7 | h7
          · exact .inl h7
          · refine .inr (.inl ?_)
            unfold rdB
            have hq1 : q < L.length := by rw [hL]; simp; omega
            rw [Array.getElem?_eq_getElem hq, List.getElem?_eq_getElem hq1]
            obtain ⟨h8, h9⟩ := pureO_light h7
            simp [h8, h9]
          · exact .inr (.inr h7)
  unfold adraw
  rw [h1, Option.bind_some, if_pos hcf]
  simpa using h2

end Go.Ab
