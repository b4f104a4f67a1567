/- More fuel, the same answer; what a run keeps of an activation. -/
import Derived.Test.YtmdbdbjaipcgeaaAbClose
set_option linter.unusedVariables false
set_option linter.unusedSimpArgs false
namespace Go.Ab
abbrev Ext := FuncId → Option (Array Value → Store → Option (Value × Store))

/-- What one calls answers the other does. -/
def CallLe (c d : ACall) : Prop := ∀ b f args M r, c b f args M = some r → d b f args M = some r

theorem astep_mono {P : Program} {c d : ACall} (h : CallLe c d) {ops : Array Oper} {o : Oper} {a : AAct} {M : Store} {r} (h1 : astep P c ops o a M = some r) : astep P d ops o a M = some r := by
  unfold astep at *
  split at h1
  · rename_i hw
    rw [if_pos hw]
    split at h1
    · exact h1
    · rename_i g f args M' he
      split at h1
      · rename_i v M'' hc
        have := h _ _ _ _ _ hc
        simp only [this]; exact h1
      · cases h1
    · cases h1
  · rename_i hw
    rw [if_neg hw]; exact h1

theorem aops_step {P : Program} {c : ACall} {ops : Array Oper} {o : Oper} {rest : List Oper} {a : AAct} {M : Store} :
    aops P c ops (o :: rest) a M = (astep P c ops o a M).bind fun r => aops P c ops rest r.1 r.2 := by
  rw [aops, astep]
  split
  · split
    · rfl
    · split
      · rename_i hc; simp only [hc, Option.bind_some]
      · rename_i hc; simp only [hc, Option.bind_none]
    · rfl
  · rfl

theorem aops_mono {P : Program} {c d : ACall} (h : CallLe c d) {ops : Array Oper} : ∀ (l : List Oper) {a : AAct} {M : Store} {r}, aops P c ops l a M = some r → aops P d ops l a M = some r
  | [], _, _, _, h1 => h1
  | o :: l, a, M, r, h1 => by
    rw [aops_step] at *
    obtain ⟨s, h2, h3⟩ := Option.bind_eq_some_iff.1 h1
    rw [astep_mono h h2, Option.bind_some]
    exact aops_mono h l h3

theorem arun_cons {P : Program} {c : ACall} {ops : Array Oper} {o : Oper} {l : List Oper} {a : AAct} {M : Store} :
    arun P c ops (o :: l) a M = (astep P c ops o a M).bind fun s => (arun P c ops l s.1 s.2).bind fun L => some ((a, M) :: L) := by
  rw [arun]
  cases astep P c ops o a M <;> rfl
theorem arun_mono {P : Program} {c d : ACall} (h : CallLe c d) {ops : Array Oper} : ∀ (l : List Oper) {a : AAct} {M : Store} {r}, arun P c ops l a M = some r → arun P d ops l a M = some r
  | [], _, _, _, h1 => h1
  | o :: l, a, M, r, h1 => by
    rw [arun_cons] at *
    obtain ⟨s, h2, h3⟩ := Option.bind_eq_some_iff.1 h1
    obtain ⟨L, h4, h5⟩ := Option.bind_eq_some_iff.1 h3
    rw [astep_mono h h2, Option.bind_some, arun_mono h l h4, Option.bind_some]
    exact h5

theorem adraw_mono {P : Program} {c d : ACall} (h : CallLe c d) {ops : Array Oper} {a : AAct} {M : Store} {r} (h1 : adraw P c ops a M = some r) : adraw P d ops a M = some r := by
  unfold adraw at *
  obtain ⟨L, h2, h3⟩ := Option.bind_eq_some_iff.1 h1
  rw [arun_mono h _ h2, Option.bind_some]; exact h3

theorem aloop_mono {s t : AAct → Store → Option (AExit × AAct × Store)} (h : ∀ a M r, s a M = some r → t a M = some r) : ∀ {n n' : Nat}, n ≤ n' → ∀ {a M r}, aloop s n a M = some r → aloop t n' a M = some r
  | 0, _, _, _, _, _, h1 => by simp [aloop] at h1
  | n + 1, 0, hn, _, _, _, _ => by omega
  | n + 1, n' + 1, hn, a, M, r, h1 => by
    simp only [aloop] at *
    cases hs : s a M with
    | none => rw [hs] at h1; cases h1
    | some q =>
      rw [hs] at h1
      rw [h _ _ _ hs]
      obtain ⟨e, a', M'⟩ := q
      cases e with
      | zero => exact aloop_mono h (by omega) h1
      | succ e => exact h1

theorem acode_mono {P : Program} {c d : ACall} (h : CallLe c d) {k k' : Nat} (hk : k ≤ k') {rd : Option Nat} : ∀ (x : Code) {a : AAct} {M : Store} {r}, acode P c k rd x a M = some r → acode P d k' rd x a M = some r
  | .skip, _, _, _, h1 => by simpa [acode] using h1
  | .region _ ops draw, a, M, r, h1 => by
    simp only [acode] at *
    obtain ⟨s, h2, h3⟩ := Option.bind_eq_some_iff.1 h1
    split at h2
    · rename_i hd; rw [if_pos hd, adraw_mono h h2]; exact h3
    · rename_i hd; rw [if_neg hd, aops_mono h _ h2]; exact h3
  | .seq x y, a, M, r, h1 => by
    simp only [acode] at *
    cases hx : acode P c k rd x a M with
    | none => rw [hx] at h1; cases h1
    | some q =>
      rw [hx] at h1
      rw [acode_mono h hk x hx]
      obtain ⟨e, a', M'⟩ := q
      cases e with
      | zero => exact acode_mono h hk y h1
      | succ e => exact h1
  | .cond v x y, a, M, r, h1 => by
    simp only [acode] at *
    split at h1
    · rename_i t ht
      split at h1
      · rename_i h2; simp only [h2, if_true]; exact acode_mono h hk x h1
      · rename_i h2; simp only [h2]; exact acode_mono h hk y h1
    · cases h1
  | .block id x, a, M, r, h1 => by
    simp only [acode] at *
    cases hx : acode P c k rd x a M with
    | none => rw [hx] at h1; cases h1
    | some q => rw [hx] at h1; rw [acode_mono h hk x hx]; exact h1
  | .loop x, a, M, r, h1 => by
    simp only [acode] at *
    exact aloop_mono (fun a M r => acode_mono h hk x) hk h1
  | .exit id, _, _, _, h1 => by simpa [acode] using h1
  | .ret, _, _, _, h1 => by simpa [acode] using h1
  | .rangeFunc g ps x y, a, M, r, h1 => by
    simp only [acode] at *
    split at h1
    · obtain ⟨s, h2, h3⟩ := Option.bind_eq_some_iff.1 h1
      obtain ⟨q, h4, h5⟩ := Option.bind_eq_some_iff.1 h3
      rw [h2, Option.bind_some, h _ _ _ _ _ h4, Option.bind_some]
      exact h5
    · cases h1
  | .scope _, _, _, _, h1 => by simp [acode] at h1
  | .label _, _, _, _, h1 => by simp [acode] at h1
  | .goto _, _, _, _, h1 => by simp [acode] at h1
  | .refuse _, _, _, _, h1 => by simp [acode] at h1

theorem acall_succ (P : Program) (E : Ext) : ∀ k, CallLe (acall P E k) (acall P E (k + 1))
  | 0 => fun b f args M r h => by cases b <;> simp [acall] at h
  | k + 1 => by
    have ih := acall_succ P E k
    intro b f args M r h
    cases b with
    | true =>
      rw [acall] at h ⊢
      split at h
      · exact h
      · split at h
        · split at h
          · split at h
            · cases h
            · rename_i hn
              rw [if_neg hn]
              split at h
              · rename_i e a M' hc
                rw [acode_mono ih (Nat.le_succ k) _ hc]
                exact h
              · cases h
          · cases h
        · cases h
    | false =>
      rw [acall] at h ⊢
      obtain ⟨q, h2, h3⟩ := Option.bind_eq_some_iff.1 h
      rw [h2, Option.bind_some]
      split at h3
      · rename_i hs
        rw [if_pos hs]
        split at h3
        · rename_i a1 M1 hc
          rw [acode_mono ih (Nat.le_succ k) _ hc]
          obtain ⟨r1, h4, h5⟩ := Option.bind_eq_some_iff.1 h3
          simp only [h4, Option.bind_some]
          split at h5
          · rename_i hr
            obtain ⟨q1, h6, h7⟩ := Option.bind_eq_some_iff.1 h5
            rw [if_pos hr, acode_mono ih (Nat.le_succ k) _ h6, Option.bind_some]
            exact h7
          · cases h5
        · cases h3
      · cases h3

theorem acall_le (P : Program) (E : Ext) {k k' : Nat} (h : k ≤ k') : CallLe (acall P E k) (acall P E k') := by
  induction h with
  | refl => exact fun _ _ _ _ _ h => h
  | step _ ih => exact fun b f args M r h => acall_succ P E _ _ _ _ _ _ (ih b f args M r h)

/-! ## what a run keeps -/
theorem aput_n (a : AAct) (d : Option Tmp) (v : Value) : (a.put d v).t.n = a.t.n := by cases d <;> rfl
theorem aput_d (a : AAct) (d : Option Tmp) (v : Value) : (a.put d v).defers = a.defers := by cases d <;> rfl
/-- As many temporaries, the same deferred calls. -/
def Like (a b : AAct) : Prop := b.t.n = a.t.n ∧ b.defers = a.defers
theorem Like.refl (a : AAct) : Like a a := ⟨rfl, rfl⟩
theorem Like.trans {a b c : AAct} (h : Like a b) (k : Like b c) : Like a c := ⟨k.1.trans h.1, k.2.trans h.2⟩
theorem astep_like {P : Program} {c : ACall} {ops : Array Oper} {o : Oper} {a a' : AAct} {M M' : Store} (h : astep P c ops o a M = some (a', M')) : Like a a' := by
  unfold astep at h
  split at h
  · split at h
    · injection h with h; injection h with h; subst h; exact ⟨aput_n _ _ _, aput_d _ _ _⟩
    · split at h
      · injection h with h; injection h with h; subst h; exact ⟨aput_n _ _ _, aput_d _ _ _⟩
      · cases h
    · cases h
  · injection h with h; injection h with h; subst h; exact ⟨aput_n _ _ _, aput_d _ _ _⟩
theorem aops_like {P : Program} {c : ACall} {ops : Array Oper} : ∀ (l : List Oper) {a a' : AAct} {M M' : Store}, aops P c ops l a M = some (a', M') → Like a a'
  | [], _, _, _, _, h => by simp only [aops, Option.some.injEq, Prod.mk.injEq] at h; rw [h.1]; exact .refl _
  | o :: l, a, a', M, M', h => by
    rw [aops_step] at h
    obtain ⟨⟨a1, M1⟩, h1, h2⟩ := Option.bind_eq_some_iff.1 h
    exact (astep_like h1).trans (aops_like l h2)
theorem arun_last {P : Program} {c : ACall} {ops : Array Oper} : ∀ (l : List Oper) {a : AAct} {M : Store} {L}, arun P c ops l a M = some L → ∃ s, L[l.length]? = some s ∧ aops P c ops l a M = some s
  | [], a, M, L, h => by simp only [arun, Option.some.injEq] at h; subst h; exact ⟨_, rfl, rfl⟩
  | o :: l, a, M, L, h => by
    rw [arun_cons] at h
    obtain ⟨s, h1, h2⟩ := Option.bind_eq_some_iff.1 h
    obtain ⟨L1, h3, h4⟩ := Option.bind_eq_some_iff.1 h2
    injection h4 with h4; subst h4
    obtain ⟨q, h5, h6⟩ := arun_last l h3
    exact ⟨q, by simpa using h5, by rw [aops_step, h1]; exact h6⟩
theorem adraw_aops {P : Program} {c : ACall} {ops : Array Oper} {a : AAct} {M : Store} {r} (h : adraw P c ops a M = some r) : aops P c ops ops.toList a M = some r := by
  unfold adraw at h
  obtain ⟨L, h1, h2⟩ := Option.bind_eq_some_iff.1 h
  obtain ⟨s, h3, h4⟩ := arun_last _ h1
  split at h2
  · rw [Array.length_toList, h2] at h3; injection h3 with h3; subst h3; exact h4
  · cases h2
theorem aloop_inv {s : AAct → Store → Option (AExit × AAct × Store)} (I : AAct → Prop) (h : ∀ a M e a' M', I a → s a M = some (e, a', M') → I a') : ∀ (n : Nat) {a M e a' M'}, I a → aloop s n a M = some (e, a', M') → I a'
  | 0, _, _, _, _, _, _, h1 => by simp [aloop] at h1
  | n + 1, a, M, e, a', M', hi, h1 => by
    simp only [aloop] at h1
    cases hs : s a M with
    | none => rw [hs] at h1; cases h1
    | some q =>
      rw [hs] at h1
      obtain ⟨e1, a1, M1⟩ := q
      cases e1 with
      | zero => exact aloop_inv I h n (h _ _ _ _ _ hi hs) h1
      | succ e1 =>
        simp only [Option.some.injEq, Prod.mk.injEq] at h1
        obtain ⟨_, rfl, _⟩ := h1
        exact h _ _ _ _ _ hi hs

/-- No range over a function. -/
def noRF : Code → Bool
  | .seq x y => noRF x && noRF y
  | .cond _ x y => noRF x && noRF y
  | .block _ x => noRF x
  | .loop x => noRF x
  | .rangeFunc _ _ _ _ => false
  | _ => true

theorem acode_n {P : Program} {c : ACall} {k : Nat} {rd : Option Nat} : ∀ (x : Code) {a a' : AAct} {M M' : Store} {e : AExit}, acode P c k rd x a M = some (e, a', M') → a'.t.n = a.t.n ∧ (noRF x = true → a'.defers = a.defers)
  | .skip, _, _, _, _, _, h => by simp only [acode, Option.some.injEq, Prod.mk.injEq] at h; obtain ⟨_, rfl, _⟩ := h; exact ⟨rfl, fun _ => rfl⟩
  | .region _ ops draw, a, a', M, M', e, h => by
    simp only [acode] at h
    obtain ⟨⟨a1, M1⟩, h2, h3⟩ := Option.bind_eq_some_iff.1 h
    simp only [Option.some.injEq, Prod.mk.injEq] at h3
    obtain ⟨_, rfl, _⟩ := h3
    have : Like a a1 := by
      split at h2
      · exact aops_like _ (adraw_aops h2)
      · exact aops_like _ h2
    exact ⟨this.1, fun _ => this.2⟩
  | .seq x y, a, a', M, M', e, h => by
    simp only [acode] at h
    cases hx : acode P c k rd x a M with
    | none => rw [hx] at h; cases h
    | some q =>
      rw [hx] at h
      obtain ⟨e1, a1, M1⟩ := q
      have h1 := acode_n x hx
      cases e1 with
      | zero =>
        have h2 := acode_n y h
        exact ⟨h2.1.trans h1.1, fun hr => by simp only [noRF, Bool.and_eq_true] at hr; exact (h2.2 hr.2).trans (h1.2 hr.1)⟩
      | succ e1 =>
        simp only [Option.some.injEq, Prod.mk.injEq] at h
        obtain ⟨_, rfl, _⟩ := h
        exact ⟨h1.1, fun hr => by simp only [noRF, Bool.and_eq_true] at hr; exact h1.2 hr.1⟩
  | .cond v x y, a, a', M, M', e, h => by
    simp only [acode] at h
    split at h
    · split at h
      · have h1 := acode_n x h
        exact ⟨h1.1, fun hr => by simp only [noRF, Bool.and_eq_true] at hr; exact h1.2 hr.1⟩
      · have h1 := acode_n y h
        exact ⟨h1.1, fun hr => by simp only [noRF, Bool.and_eq_true] at hr; exact h1.2 hr.2⟩
    · cases h
  | .block id x, a, a', M, M', e, h => by
    simp only [acode] at h
    cases hx : acode P c k rd x a M with
    | none => rw [hx] at h; cases h
    | some q =>
      rw [hx] at h
      obtain ⟨e1, a1, M1⟩ := q
      simp only [Option.some.injEq, Prod.mk.injEq] at h
      obtain ⟨_, rfl, _⟩ := h
      exact acode_n x hx
  | .loop x, a, a', M, M', e, h => by
    simp only [acode] at h
    refine ⟨?_, fun hr => ?_⟩
    · exact aloop_inv (fun b => b.t.n = a.t.n) (fun b M e b' M' hb hs => (acode_n x hs).1.trans hb) _ rfl h
    · exact aloop_inv (fun b => b.defers = a.defers) (fun b M e b' M' hb hs => ((acode_n x hs).2 hr).trans hb) _ rfl h
  | .exit id, _, _, _, _, _, h => by simp only [acode, Option.some.injEq, Prod.mk.injEq] at h; obtain ⟨_, rfl, _⟩ := h; exact ⟨rfl, fun _ => rfl⟩
  | .ret, _, _, _, _, _, h => by simp only [acode, Option.some.injEq, Prod.mk.injEq] at h; obtain ⟨_, rfl, _⟩ := h; exact ⟨rfl, fun _ => rfl⟩
  | .rangeFunc g ps x y, a, a', M, M', e, h => by
    simp only [acode] at h
    split at h
    · obtain ⟨⟨a1, M1⟩, h2, h3⟩ := Option.bind_eq_some_iff.1 h
      obtain ⟨q, h4, h5⟩ := Option.bind_eq_some_iff.1 h3
      obtain ⟨r, h6, h7⟩ := Option.bind_eq_some_iff.1 h5
      split at h7
      · cases h7
      · simp only [Option.some.injEq, Prod.mk.injEq] at h7
        obtain ⟨_, rfl, _⟩ := h7
        refine ⟨?_, fun hr => by simp [noRF] at hr⟩
        unfold aenter at h2
        split at h2
        · injection h2 with h2; injection h2 with h2; subst h2; rfl
        · obtain ⟨_, _, h2⟩ := Option.bind_eq_some_iff.1 h2
          injection h2 with h2; injection h2 with h2; subst h2; rfl
    · cases h
  | .scope _, _, _, _, _, _, h => by simp [acode] at h
  | .label _, _, _, _, _, _, h => by simp [acode] at h
  | .goto _, _, _, _, _, _, h => by simp [acode] at h
  | .refuse _, _, _, _, _, _, h => by simp [acode] at h

end Go.Ab
