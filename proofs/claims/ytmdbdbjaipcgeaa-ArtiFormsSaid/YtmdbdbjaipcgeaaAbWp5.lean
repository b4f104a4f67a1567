/- A range over a function: its beginning and end, and its rounds. -/
import Derived.Test.YtmdbdbjaipcgeaaAbWp4
set_option linter.unusedVariables false
set_option linter.unusedSimpArgs false
namespace Go.Ab

section
variable {P : Program} {E : Ext}

/-- The call of the function that is ranged over. -/
def rfc (P : Program) (E : Ext) (g : Value) (l : Nat) (M : Store) (k : Value → Store → Prop) : Prop := match g with
  | .func (.func f) first captured => Runs P E f (first.toList ++ (.func (.yield l) #[] #[] :: captured.toList)).toArray M k
  | _ => False

theorem CW.rf {g : Operand} {ps : Array Tmp} {x y : Code} {a : AAct} {M : Store} {K : Cont}
    (h : rfc P E (a.eval g) (M.n + 1) ((M.push (some (.inr (.inr none)))).push (some (.inr (.inr (some ⟨.ready, 0, a.t, ps, x, y⟩))))) fun _ M' =>
      OP (recOf M' (M.n + 1)) fun r => r.st ≠ .busy ∧ K r.pe { a with defers := { target := .collected M.n, args := #[] } :: a.defers } (putRec M' (M.n + 1) { r with st := .exhausted })) :
    CW P E none (.rangeFunc g ps x y) a M K := by
  unfold rfc at h
  split at h
  · rename_i f first captured hg
    obtain ⟨k, v, M1, h1, h2⟩ := h
    obtain ⟨r, h3, h4, h5⟩ := OP_iff.1 h2
    refine ⟨k, r.pe, _, _, ?_, h5⟩
    rw [acode, hg]
    simp only [aenter, Option.bind_some]
    have e : first ++ #[.func (.yield (M.n + 1)) #[] #[]] ++ captured = (first.toList ++ (.func (.yield (M.n + 1)) #[] #[] :: captured.toList)).toArray := by
      rw [← Array.toList_inj]; simp
    have e2 : ((M.push (some (.inr (.inr none)))).push (some (.inr (.inr (some ⟨.ready, 0, a.t, ps, x, y⟩))))).n - 1 = M.n + 1 := by simp
    rw [e2, e, h1, Option.bind_some, h3, Option.bind_some]
    have hb : (r.st == LoopState.busy) = false := by
      cases hs : r.st <;> first | rfl | exact absurd hs h4
    rw [hb]; rfl
  · exact h.elim

/-- The end of a round. -/
def YE (l e : Nat) (M : Store) (Q : Value → Store → Prop) : Prop :=
  OP (recOf M l) fun r => Q (.bool (Nat.beq e 0)) (putRec M l { r with st := bif Nat.beq e 0 then .ready else .done, pe := e })
def kfinY (l : Nat) (Q : Value → Store → Prop) : Cont := fun e _ M => YE l e M Q
def AtY (P : Program) (E : Ext) (l : Nat) (fn : Func) (base p : List Nat) (a : AAct) (M : Store) (Q : Value → Store → Prop) : Prop :=
  CW P E (some l) (sub (sub (bodyOf fn) base) p) a M (kcont P E (some l) (sub (bodyOf fn) base) p (kfinY l Q))
/-- The middle of a round: behind the assignment of what was handed over. -/
def kmid (P : Program) (E : Ext) (l : Nat) (y : Code) (Q : Value → Store → Prop) : Cont := fun e a M => bif Nat.beq e 0 then
    OP (recOf M l) fun r => r.st = .ready ∧ CW P E (some l) y a (putRec M l { r with st := .busy }) (kfinY l Q)
  else False
def putsL (ps : List Tmp) (vs : List Value) (t : PT) : PT := (ps.zip vs).foldl (fun t pv => t.put pv.1 pv.2) t

theorem runsY_of {l : Nat} {args : List Value} {M : Store} {Q : Value → Store → Prop} {r : LRec} (hr : recOf M l = some r) (hs : args.length = r.params.toList.length)
    (h : CW P E (some l) r.assign ⟨putsL r.params.toList args r.tmps, []⟩ M (kmid P E l r.body Q)) : RunsY P E l args.toArray M Q := by
  obtain ⟨k, e, a1, M1, h1, h2⟩ := h
  simp only [kmid] at h2
  cases he : Nat.beq e 0 with
  | false => rw [he] at h2; exact h2.elim
  | true =>
    rw [he] at h2
    obtain rfl := Nat.eq_of_beq_eq_true he
    obtain ⟨r1, h3, h4, k2, e2, a2, M2, h5, h6⟩ := OP_iff.1 h2
    simp only [kfinY, YE] at h6
    obtain ⟨r3, h7, h8⟩ := OP_iff.1 h6
    refine ⟨max k k2 + 1, _, _, ?_, h8⟩
    rw [acall, hr, Option.bind_some, if_pos (by simpa using hs)]
    have e1 := acode_mono (acall_le P E (Nat.le_max_left k k2)) (Nat.le_max_left k k2) _ h1
    have e5 := acode_mono (acall_le P E (Nat.le_max_right k k2)) (Nat.le_max_right k k2) _ h5
    simp only [putsL] at e1
    rw [e1]
    simp only [h3, Option.bind_some, h4]
    rw [if_pos (by rfl)]
    rw [e5, Option.bind_some]
    simp only [h7, Option.bind_some]
    cases e2 with
    | zero => rfl
    | succ e2 => rfl

theorem disp_K {N : Nat} {L : List Ent} {K : Cont} (es : List Nat) (hx : es.map K = es.map (tgt L)) (hes : ((L.map (·.e)).all fun e => es.elem e) = true) (hL : AllE N L)
    {e : Nat} {a : AAct} {M : Store} (hn : a.t.n = N) (h : disp L e a M) : K e a M := by
  obtain ⟨h1, h2⟩ := disp_tgt L hL _ _ _ hn h
  have h4 : e ∈ es := by simpa using List.all_eq_true.1 hes e h2
  have : ∀ (l : List Nat), l.map K = l.map (tgt L) → e ∈ l → K e = tgt L e := by
    intro l
    induction l with
    | nil => intro _ h; cases h
    | cons x l ih =>
      intro h1 h2
      simp only [List.map_cons, List.cons.injEq] at h1
      rcases List.mem_cons.1 h2 with rfl | h2
      · exact h1.1
      · exact ih h1.2 h2
  rw [this es hx h4]; exact h1

theorem rfc_mono {g : Value} {l : Nat} {M : Store} {k k' : Value → Store → Prop} (h : rfc P E g l M k) (hk : ∀ v M, k v M → k' v M) : rfc P E g l M k' := by
  unfold rfc at h ⊢
  split at h
  · exact h.mono hk
  · exact h.elim
end
end Go.Ab
