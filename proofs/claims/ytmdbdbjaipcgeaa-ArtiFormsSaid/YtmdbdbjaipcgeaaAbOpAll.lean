/- The abstract machine's operations are the model's: all of them, and the code that is made of them. -/
import Derived.Test.YtmdbdbjaipcgeaaAbMem7
set_option linter.unusedVariables false
set_option linter.unusedSimpArgs false
namespace Go.Ab
open Go.RowKit

theorem copy_none {P : Program} {w : World} {ts : Array TypeId} {t ty e : TypeId} {s : Nat} {ac bc : Option Addr} {n m c d : Nat} (ht : ts[0]? = some t) (hu : P.underlying t = some (.slice e)) (hs : szOf P e = some s) (h : min m n = 0) :
    (Builtin.copy_ ts ty #[.slice ac n c, .slice bc m d]).run P w = .ok (goInt 0) w := by
  have h' : Nat.min m n = 0 := h
  cases ac <;> cases bc <;> simp [Builtin.copy_, ht, run_underlying' hu, run_sizeOf' hs, Builtin.lenOf, h', Builtin.firstCells, loadCells, loadCellsFrom, storeCells]

theorem acopy_run {P : Program} {μ : Map} {M M' : Store} {w : World} (hR : Rel P μ M w) {ts : Array TypeId} {ty : TypeId} {v x cv cx r : Value} (h : acopy P ts v x M = some (r, M')) (hv : VRel P μ w.shape? cv v) (hx : VRel P μ w.shape? cx x) :
    ∃ cr w', (Builtin.copy_ ts ty #[cv, cx]).run P w = .ok cr w' ∧ Made P μ M w r M' cr w' := by
  unfold acopy at h
  obtain ⟨t, ht, h⟩ := Option.bind_eq_some_iff.1 h
  obtain ⟨e, he, h⟩ := Option.bind_eq_some_iff.1 h
  have hu := sliceT_eq he
  obtain ⟨s, hsz, h⟩ := Option.bind_eq_some_iff.1 h
  obtain ⟨base, n, cap, rfl⟩ : ∃ base n cap, v = .slice base n cap := by
    cases v <;> first | exact ⟨_, _, _, rfl⟩ | (cases h)
  obtain ⟨src, m, cap', rfl⟩ : ∃ base n cap, x = .slice base n cap := by
    cases x <;> first | exact ⟨_, _, _, rfl⟩ | (cases h)
  obtain ⟨ac, cc, rfl, hs⟩ := hv.slice
  obtain ⟨bc, cd, rfl, hs'⟩ := hx.slice
  simp only [] at h
  split at h
  · rename_i hk
    injection h with h; injection h with h h'; subst h; subst h'
    exact ⟨_, w, copy_none ht hu hsz hk, μ, hR, .refl _ _ _, VRel.mkInt _ _⟩
  · rename_i hk
    obtain ⟨b, o, b', o', rfl, rfl⟩ : ∃ b o b' o', base = some ⟨b, o, none⟩ ∧ src = some ⟨b', o', none⟩ := by
      rcases base with _ | ⟨b, o, _ | _⟩ <;> rcases src with _ | ⟨b', o', _ | _⟩ <;> first | exact ⟨_, _, _, _, rfl, rfl⟩ | (cases h)
    · simp only [] at h
      obtain ⟨cs, hc, h⟩ := Option.bind_eq_some_iff.1 h
      split at h
      · rename_i c e' hg
        split at h
        · rename_i hle
          injection h with h; injection h with h h'; subst h; subst h'
          obtain ⟨y, rfl, ⟨_, l, hl, rfl⟩, _⟩ := hs.addr (.inl (by omega)) _ rfl
          obtain ⟨y, rfl, ⟨_, l', hl', rfl⟩, _⟩ := hs'.addr (.inl (by omega)) _ rfl
          obtain ⟨us, h1, h2, h3⟩ := row_rel hR hc hl'
          obtain ⟨ho, ho0, cc0, fr, hb, hcl, hrel, hfr⟩ := own_block hR hl hg
          have hcsl : cs.length = min m n * s := by rw [← h1.1, h2]
          obtain ⟨w', cc', q1, q2, q3, q4⟩ := run_storeRow (P := P) (b := l.b) (o := l.o + o) us 0 cc0 w hb (by rw [h2, ho0]; omega) hfr.cells (fun u hu => by
            obtain ⟨i, hi, rfl⟩ := List.getElem_of_mem hu
            obtain ⟨x, _, hx⟩ := h1.get' (List.getElem?_eq_getElem hi)
            exact hx.one.1)
          have hlo : l.o + o = o := by omega
          refine ⟨goInt ((min m n : Nat) : Int), w', ?_, μ, ?_⟩
          · have hm : Nat.min m n = min m n := rfl
            have hld := run_loadRow (P := P) (w := w) l'.b (l'.o + o') (min m n * s) h2 h3
            dsimp only
            simp only [Builtin.copy_, ht, List.getElem?_toArray, List.getElem?_cons_zero, List.getElem?_cons_succ, Sem.run_bind, run_underlying' hu, Result.andThen_ok, Builtin.lenOf, Sem.run_pure, run_sizeOf' hsz, Builtin.firstCells, hm, hld, q1]
          · obtain ⟨g1, g2⟩ := rel_set hR hl hg ho q4 (some (.inl (splice c o cs, e', true))) ⟨ho.symm, cc', e', fr, q2, by
              rw [ho0, List.drop_zero, q3, Nat.add_zero, hlo, splice_length (by omega), splice_take (by rw [h2, ← hcsl]; omega) (by simpa using hcl)]
              exact splice_rel (hrel.mono fun _ _ => CRel.mono (.refl _) q4.sle) (h1.mono fun _ _ => CRel.mono (.refl _) q4.sle), fun _ => ⟨rfl, ho0, by
                have hsz' : cc'.size = cc0.size := by
                  have : cc'.toList.length = cc0.toList.length := by rw [q3, splice_length (by simp only [Array.length_toList]; rw [h2]; omega)]
                  simpa using this
                rw [hsz']; exact hfr⟩⟩
            exact ⟨g1, g2, VRel.mkInt _ _⟩
        · cases h
      · cases h

theorem Made.pure {P : Program} {μ : Map} {M : Store} {w : World} (hR : Rel P μ M w) {v cv : Value} (h : VRel P μ w.shape? cv v) : Made P μ M w v M cv w := ⟨μ, hR, .refl _ _ _, h⟩

theorem acap_run {P : Program} {μ : Map} {w : World} {ts : Array TypeId} {t ty : TypeId} {x cx r : Value} (ht : ts[0]? = some t) (h : acap P t x = some r) (hx : VRel P μ w.shape? cx x) :
    (Builtin.cap_ ts ty #[cx]).run P w = .ok r w ∧ VRel P μ w.shape? r r := by
  unfold acap at h
  split at h
  · rename_i e a n c hu
    split at h
    · rename_i hc
      injection h with h; subst h
      obtain ⟨ac, cc, rfl, hs⟩ := hx.slice
      have := hs.full hc
      subst this
      exact ⟨by simp [Builtin.cap_, ht, run_underlying' hu], VRel.mkInt _ _⟩
    · cases h
  · cases h

theorem abuiltin_run {P : Program} {μ : Map} {M M' : Store} {w : World} (hR : Rel P μ M w) {b : Builtin} {ts : Array TypeId} {ty : TypeId} {args cargs : Array Value} {r : Value} (h : abuiltin P b ts args M = some (r, M'))
    (ha : LRel (VRel P μ w.shape?) cargs.toList args.toList) :
    ∃ cr w', (∀ cs, (builtin b ts ty cs cargs).run P w = .ok (.value cr) w') ∧ Made P μ M w r M' cr w' := by
  obtain ⟨args⟩ := args
  obtain ⟨cargs⟩ := cargs
  simp only [] at ha
  have two : ∀ {v x : Value}, args = [v, x] → ∃ cv cx, cargs = [cv, cx] ∧ VRel P μ w.shape? cv v ∧ VRel P μ w.shape? cx x := by
    rintro v x rfl
    match cargs, ha with
    | [cv, cx], ha => exact ⟨cv, cx, rfl, ha.head, ha.tail.head⟩
    | [], ha => have := ha.1; simp at this
    | [_], ha => have := ha.1; simp at this
    | _ :: _ :: _ :: _, ha => have := ha.1; simp at this
  have one : ∀ {v : Value}, args = [v] → ∃ cv, cargs = [cv] ∧ VRel P μ w.shape? cv v := by
    rintro v rfl
    match cargs, ha with
    | [cv], ha => exact ⟨cv, rfl, ha.head⟩
    | [], ha => have := ha.1; simp at this
    | _ :: _ :: _, ha => have := ha.1; simp at this
  unfold abuiltin at h
  split at h
  · rename_i v x hl
    obtain ⟨cv, cx, rfl, h1, h2⟩ := two hl
    obtain ⟨cr, w', h3, h4⟩ := aappend_run hR (ty := ty) h h1 h2
    exact ⟨cr, w', fun cs => by simp [builtin, h3], h4⟩
  · rename_i x hl
    obtain ⟨cx, rfl, h1⟩ := one hl
    obtain ⟨t, ht, h⟩ := Option.bind_eq_some_iff.1 h
    obtain ⟨v, hv, h⟩ := Option.bind_eq_some_iff.1 h
    injection h with h; injection h with h h'; subst h; subst h'
    obtain ⟨h3, h4⟩ := alen_run hR (ty := ty) ht hv h1
    exact ⟨_, w, fun cs => by simp [builtin, h3], .pure hR h4⟩
  · rename_i x y hl
    obtain ⟨cx, cy, rfl, h1, h2⟩ := two hl
    obtain ⟨v, hv, h⟩ := Option.bind_eq_some_iff.1 h
    injection h with h; injection h with h h'; subst h; subst h'
    unfold amin2 at hv
    split at hv
    · obtain rfl := h1.int; obtain rfl := h2.int
      injection hv with hv; subst hv
      exact ⟨_, w, fun cs => by simp [builtin, Builtin.min_, Builtin.min2], .pure hR (VRel.mkInt _ _)⟩
    · cases hv
  · rename_i x hl
    obtain ⟨cx, rfl, h1⟩ := one hl
    obtain ⟨t, ht, h⟩ := Option.bind_eq_some_iff.1 h
    obtain ⟨v, hv, h⟩ := Option.bind_eq_some_iff.1 h
    injection h with h; injection h with h h'; subst h; subst h'
    obtain ⟨h3, h4⟩ := acap_run (w := w) (ty := ty) ht hv h1
    exact ⟨_, w, fun cs => by simp [builtin, h3], .pure hR h4⟩
  · rename_i x y hl
    obtain ⟨cx, cy, rfl, h1, h2⟩ := two hl
    obtain ⟨v, hv, h⟩ := Option.bind_eq_some_iff.1 h
    injection h with h; injection h with h h'; subst h; subst h'
    unfold amax2 at hv
    split at hv
    · obtain rfl := h1.int; obtain rfl := h2.int
      injection hv with hv; subst hv
      exact ⟨_, w, fun cs => by simp [builtin, Builtin.max_, Builtin.max2], .pure hR (VRel.mkInt _ _)⟩
    · cases hv
  · rename_i v x hl
    obtain ⟨cv, cx, rfl, h1, h2⟩ := two hl
    obtain ⟨cr, w', h3, h4⟩ := acopy_run hR (ty := ty) h h1 h2
    exact ⟨cr, w', fun cs => by simp [builtin, h3], h4⟩
  · rename_i m k hl
    obtain ⟨cm, ck, rfl, h1, h2⟩ := two hl
    obtain ⟨t, ht, h⟩ := Option.bind_eq_some_iff.1 h
    obtain ⟨M1, hM, h⟩ := Option.bind_eq_some_iff.1 h
    injection h with h; injection h with h h'; subst h; subst h'
    obtain ⟨w', h3, h4, h5⟩ := adelete_run hR (ty := ty) ht hM h1 h2
    exact ⟨_, w', fun cs => by (simp only [builtin, Sem.run_bind, h3, Result.andThen_ok, Sem.run_pure]; rfl), μ, h4, h5, VRel.undef⟩
  · cases h

theorem eval_rel {P : Program} {μ : Map} {sh : Shp} {a : AAct} {ca : Act} (hA : ∀ i : Nat, VRel P μ sh (ca.tmps.getD i undef) (a.get i)) {x : Operand} (hx : constOk x = true) : VRel P μ sh (ca.eval x) (a.eval x) := by
  cases x with
  | tmp t => exact hA t
  | const v =>
    show VRel P μ sh v v
    cases v <;> first
      | exact VRel.of_B (plain_B hx)
      | exact LRel.plain (fun v hv => Array.all_eq_true_iff_forall_mem.1 (show _ = true from hx) v (by simpa using hv))
  | func f => exact ⟨rfl, LRel.nil _, LRel.nil _⟩
  | global g => cases hx

/-- What an operation comes to. -/
def NRel (P : Program) (μ : Map) (M : Store) (w : World) (r : Sum Value (Bool × Nat × Array Value)) (M' : Store) (o : Oper) (ca : Act) : Prop :=
  match r with
  | .inl v => ∃ cv w', ((execOp ca.eval o).run P w = .ok (.value cv) w' ∨ ((execOp ca.eval o).run P w = .ok .skip w' ∧ cv = undef)) ∧ Made P μ M w v M' cv w'
  | .inr (true, f, args) => M' = M ∧ ∃ cargs, (execOp ca.eval o).run P w = (callFunc f cargs).run P w ∧ LRel (VRel P μ w.shape?) cargs.toList args.toList
  | .inr (false, l, args) => M' = M ∧ ∃ k cargs, μ l = some k ∧ (execOp ca.eval o).run P w = (Instr.yield k.b cargs).run P w ∧ LRel (VRel P μ w.shape?) cargs.toList args.toList

theorem bind_some {α β : Type} {r : Option α} {f : α → β} {x : β} (h : (r.bind fun x => some (f x)) = some x) : ∃ v, r = some v ∧ f v = x := by
  obtain ⟨v, h1, h2⟩ := Option.bind_eq_some_iff.1 h
  exact ⟨v, h1, by injection h2⟩

theorem B_of_C {P : Program} {μ : Map} {sh : Shp} {u v : Value} (h : CRel P μ sh u v) (hf : ∀ f a c, v ≠ .func f a c) (hi : ∀ t x, v ≠ .iface t x) : BRel P μ sh u v := by
  rcases h.inv with h | ⟨_, _, _, _, _, _, _, rfl, _⟩ | ⟨_, _, _, _, rfl, _⟩
  · exact h
  · exact absurd rfl (hf _ _ _)
  · exact absurd rfl (hi _ _)

theorem opt_rel {P : Program} {μ : Map} {sh : Shp} {ρc ρa : Operand → Value} {x : Option Operand} (h : ∀ y, x = some y → VRel P μ sh (ρc y) (ρa y)) : ORel (VRel P μ sh) (x.map ρc) (x.map ρa) := by
  cases x with
  | none => trivial
  | some y => exact h y rfl

theorem map_rel {P : Program} {μ : Map} {sh : Shp} {ρc ρa : Operand → Value} {xs : Array Operand} (h : ∀ y ∈ xs.toList, VRel P μ sh (ρc y) (ρa y)) : LRel (VRel P μ sh) (xs.map ρc).toList (xs.map ρa).toList := by
  rw [Array.toList_map, Array.toList_map]
  refine ⟨by simp, fun i u v hu hv => ?_⟩
  simp only [List.getElem?_map, Option.map_eq_some_iff] at hu hv
  obtain ⟨y, hy, rfl⟩ := hu
  obtain ⟨z, hz, rfl⟩ := hv
  rw [hy] at hz; injection hz with hz; subst hz
  exact h y (List.mem_of_getElem? hy)

end Go.Ab
