/- The abstract machine's memory operations are the model's. -/
import Derived.Test.YtmdbdbjaipcgeaaAbOps3
set_option linter.unusedVariables false
set_option linter.unusedSimpArgs false
namespace Go.Ab
open Go.RowKit

/-! ## worlds -/
def upd (μ : Map) (i : Nat) (l : Loc) : Map := fun j => if j = i then some l else μ j
theorem upd_eq (μ : Map) (i : Nat) (l : Loc) : upd μ i l i = some l := by simp [upd]
theorem upd_ne (μ : Map) {i j : Nat} (l : Loc) (h : j ≠ i) : upd μ i l j = μ j := by simp [upd, h]

theorem ObjRel.mono {P : Program} {μ μ' : Map} {w w' : World} {l : Loc} {o : AObj} (hm : MLe μ μ') (hs : SLe w.shape? w'.shape?) (hb : w'.heap[l.b]? = w.heap[l.b]?) (h : ObjRel P μ w l o) : ObjRel P μ' w' l o := by
  match o with
  | none => trivial
  | some (.inl (c, e, own)) =>
    obtain ⟨h1, cc, ce, fr, h2, h3, h4⟩ := h
    exact ⟨h1, cc, ce, fr, hb.trans h2, h3.mono fun _ _ => CRel.mono hm hs, h4⟩
  | some (.inr (.inl es)) =>
    obtain ⟨h1, en, ck, h2, h3, h4⟩ := h
    exact ⟨h1, en, ck, hb.trans h2, h3, fun i x kv a b => ⟨(h4 i x kv a b).1.mono hm hs, (h4 i x kv a b).2.1.mono hm hs, (h4 i x kv a b).2.2⟩⟩
  | some (.inr (.inr none)) => exact ⟨h.1, hb.trans h.2⟩
  | some (.inr (.inr (some r))) =>
    obtain ⟨h1, q, h2, h3⟩ := h
    exact ⟨h1, q, hb.trans h2, h3.mono hm hs⟩

theorem Rel.fresh {P : Program} {μ : Map} {M : Store} {w : World} (hR : Rel P μ M w) : μ M.n = none := by
  cases h : μ M.n with
  | none => rfl
  | some l => have := (hR.dom _ _ h).1; omega
theorem MLe.upd {μ : Map} {i : Nat} {l : Loc} (h : μ i = none) : MLe μ (upd μ i l) := fun j k hj => by
  by_cases e : j = i
  · subst e; rw [h] at hj; cases hj
  · rw [upd_ne _ _ e]; exact hj

/-- The same memory, other draws. -/
structure Same (w w' : World) : Prop where
  heap : w'.heap = w.heap
  os : w'.os = w.os
  tape : w'.tape = w.tape
  output : w'.output = w.output
/-- A new block behind all others. -/
structure NewB (w w' : World) (ob : Obj) : Prop where
  heap : w'.heap = w.heap.push ob
  os : w'.os = w.os
  tape : w'.tape = w.tape
  output : w'.output = w.output

theorem shp_push {w w' : World} {ob : Obj} (h : w'.heap = w.heap.push ob) : SLe w.shape? w'.shape? := by
  intro b x hx
  unfold World.shape? at *
  rw [h]
  cases hb : w.heap[b]? with
  | none => rw [hb] at hx; cases hx
  | some o =>
    have : b < w.heap.size := (Array.getElem?_eq_some_iff.1 hb).1
    rw [Array.getElem?_push, if_neg (by omega), hb]
    rw [hb] at hx
    exact hx

theorem rel_new {P : Program} {μ : Map} {M : Store} {w w' : World} (hR : Rel P μ M w) {ob : Obj} (hn : NewB w w' ob) (o : AObj)
    (ho : ObjRel P (upd μ M.n ⟨w.heap.size, 0, true⟩) w' ⟨w.heap.size, 0, true⟩ o) :
    Rel P (upd μ M.n ⟨w.heap.size, 0, true⟩) (M.push o) w' ∧ Step μ M w (upd μ M.n ⟨w.heap.size, 0, true⟩) (M.push o) w' := by
  have hsz : w'.heap.size = w.heap.size + 1 := by rw [hn.heap]; simp
  have hle := MLe.upd (l := ⟨w.heap.size, 0, true⟩) hR.fresh
  have hold : ∀ b, b < w.heap.size → w'.heap[b]? = w.heap[b]? := fun b hb => by rw [hn.heap, Array.getElem?_push, if_neg (by omega)]
  refine ⟨⟨?_, ?_, ?_⟩, ⟨hle, by simp, by omega, hn.os, hn.tape, hn.output, shp_push hn.heap, [], rfl, fun b hb _ => hold b hb, ?_⟩⟩
  · intro i l hi
    by_cases e : i = M.n
    · subst e; rw [upd_eq] at hi; injection hi with hi; subst hi; exact ⟨by simp, by simp [hsz]⟩
    · rw [upd_ne _ _ e] at hi
      have := hR.dom _ _ hi
      exact ⟨by simp; omega, by omega⟩
  · intro i l hi
    by_cases e : i = M.n
    · subst e; rw [upd_eq] at hi; injection hi with hi; subst hi; rw [M.get_push_eq]; exact ho
    · rw [upd_ne _ _ e] at hi
      rw [M.get_push_ne _ e]
      exact (hR.obj _ _ hi).mono hle (shp_push hn.heap) (hold _ (hR.dom _ _ hi).2)
  · intro i j l k hi hj hij gi gj hown
    by_cases e : i = M.n
    · subst e
      rw [upd_eq] at hi; injection hi with hi; subst hi
      rw [upd_ne _ _ (Ne.symm hij)] at hj
      have := (hR.dom _ _ hj).2
      show w.heap.size ≠ k.b
      omega
    · rw [upd_ne _ _ e] at hi
      rw [M.get_push_ne _ e] at gi
      by_cases e' : j = M.n
      · subst e'
        rw [upd_eq] at hj; injection hj with hj; subst hj
        have := (hR.dom _ _ hi).2
        show l.b ≠ w.heap.size
        omega
      · rw [upd_ne _ _ e'] at hj
        rw [M.get_push_ne _ e'] at gj
        exact hR.excl i j l k hi hj hij gi gj hown
  · intro i l hi
    by_cases e : i = M.n
    · subst e; rw [upd_eq] at hi; injection hi with hi; subst hi; exact .inr ⟨Nat.le_refl _, rfl, .inl (Nat.le_refl _)⟩
    · rw [upd_ne _ _ e] at hi; exact .inl hi

/-- One block is written. -/
structure WroteB (w w' : World) (b : Nat) : Prop where
  other : ∀ k, k ≠ b → w'.heap[k]? = w.heap[k]?
  size : w'.heap.size = w.heap.size
  shp : w'.shape? b = w.shape? b
  os : w'.os = w.os
  tape : w'.tape = w.tape
  output : w'.output = w.output
theorem WroteB.sle {w w' : World} {b : Nat} (h : WroteB w w' b) : SLe w.shape? w'.shape? := fun k x hx => by
  by_cases e : k = b
  · subst e; rw [h.shp]; exact hx
  · unfold World.shape? at *; rw [h.other k e]; exact hx

theorem rel_set {P : Program} {μ : Map} {M : Store} {w w' : World} (hR : Rel P μ M w) {i : Nat} {l : Loc} {x} (hi : μ i = some l) (hg : M.get i = some x) (hown : l.own = true) (hw : WroteB w w' l.b) (o : AObj)
    (ho : ObjRel P μ w' l o) : Rel P μ (M.set i o) w' ∧ Step μ M w μ (M.set i o) w' := by
  refine ⟨⟨?_, ?_, ?_⟩, ⟨.refl _, by simp, by rw [hw.size]; exact Nat.le_refl _, hw.os, hw.tape, hw.output, hw.sle, [i], by rw [M.set_log o hg]; rfl, ?_, fun _ _ h => .inl h⟩⟩
  · intro j k hj
    have := hR.dom _ _ hj
    exact ⟨by simpa using this.1, by rw [hw.size]; exact this.2⟩
  · intro j k hj
    by_cases e : i = j
    · subst e
      rw [hi] at hj; injection hj with hj; subst hj
      rw [M.get_set_eq o hg]; exact ho
    · rw [M.get_set_ne o e]
      cases hq : M.get j with
      | none => trivial
      | some y =>
        have := hR.excl i j l k hi hj e (by rw [hg]; simp) (by rw [hq]; simp) hown
        have h2 := hR.obj _ _ hj
        rw [hq] at h2
        exact h2.mono (.refl _) hw.sle (hw.other _ (Ne.symm this))
  · intro j k lj lk hj hk hjk gj gk hown'
    have live : ∀ q, (M.set i o).get q ≠ none → M.get q ≠ none := fun q hq => by
      by_cases e : i = q
      · subst e; rw [hg]; simp
      · rwa [M.get_set_ne o e] at hq
    exact hR.excl j k lj lk hj hk hjk (live _ gj) (live _ gk) hown'
  · intro b hb hq
    exact hw.other b (fun e => hq i (by simp) l hi hown e.symm)

/-- An object's block goes over to a new one. -/
theorem rel_move {P : Program} {μ : Map} {M : Store} {w w' : World} (hR : Rel P μ M w) {i : Nat} {l : Loc} {x} (hi : μ i = some l) (hg : M.get i = some x) (hown : l.own = true) (hw : WroteB w w' l.b) (o : AObj)
    (ho : ObjRel P (upd μ M.n l) w' l o) : Rel P (upd μ M.n l) ((M.set i none).push o) w' ∧ Step μ M w (upd μ M.n l) ((M.set i none).push o) w' := by
  have hle := MLe.upd (l := l) hR.fresh
  have hlt := M.lt_of_get hg
  have gn : ((M.set i none).push o).get M.n = o := by
    have := (M.set i none).get_push_eq o
    rwa [M.set_n] at this
  have go_ : ∀ j, j ≠ M.n → ((M.set i none).push o).get j = (M.set i none).get j := fun j hj => (M.set i none).get_push_ne o (by rwa [M.set_n])
  refine ⟨⟨?_, ?_, ?_⟩, ⟨hle, by simp, by rw [hw.size]; exact Nat.le_refl _, hw.os, hw.tape, hw.output, hw.sle, [i], by rw [Store.push_log, M.set_log none hg]; rfl, ?_, ?_⟩⟩
  · intro j k hj
    by_cases e : j = M.n
    · subst e; rw [upd_eq] at hj; injection hj with hj; subst hj
      exact ⟨by simp, by rw [hw.size]; exact (hR.dom _ _ hi).2⟩
    · rw [upd_ne _ _ e] at hj
      have := hR.dom _ _ hj
      exact ⟨by simp; omega, by rw [hw.size]; exact this.2⟩
  · intro j k hj
    by_cases e : j = M.n
    · subst e; rw [upd_eq] at hj; injection hj with hj; subst hj
      rw [gn]; exact ho
    · rw [upd_ne _ _ e] at hj
      rw [go_ j e]
      by_cases e2 : i = j
      · subst e2; rw [M.get_set_eq none hg]; trivial
      · rw [M.get_set_ne none e2]
        cases hq : M.get j with
        | none => trivial
        | some y =>
          have := hR.excl i j l k hi hj e2 (by rw [hg]; simp) (by rw [hq]; simp) hown
          have h2 := hR.obj _ _ hj
          rw [hq] at h2
          exact h2.mono hle hw.sle (hw.other _ (Ne.symm this))
  · intro j k lj lk hj hk hjk gj gk hown'
    have live : ∀ q, q ≠ M.n → ((M.set i none).push o).get q ≠ none → q ≠ i ∧ M.get q ≠ none := fun q h0 hq => by
      rw [go_ q h0] at hq
      by_cases e : i = q
      · subst e; rw [M.get_set_eq none hg] at hq; exact absurd rfl hq
      · rw [M.get_set_ne none e] at hq; exact ⟨Ne.symm e, hq⟩
    by_cases e : j = M.n
    · subst e
      rw [upd_eq] at hj; injection hj with hj; subst hj
      have hk0 : k ≠ M.n := Ne.symm hjk
      rw [upd_ne _ _ hk0] at hk
      obtain ⟨h1, h2⟩ := live k hk0 gk
      exact hR.excl i k l lk hi hk (Ne.symm h1) (by rw [hg]; simp) h2 hown
    · rw [upd_ne _ _ e] at hj
      obtain ⟨h1, h2⟩ := live j e gj
      by_cases e' : k = M.n
      · subst e'
        rw [upd_eq] at hk; injection hk with hk; subst hk
        exact hR.excl j i lj l hj hi h1 h2 (by rw [hg]; simp) hown'
      · rw [upd_ne _ _ e'] at hk
        obtain ⟨h3, h4⟩ := live k e' gk
        exact hR.excl j k lj lk hj hk hjk h2 h4 hown'
  · intro b hb hq
    exact hw.other b (fun e => hq i (by simp) l hi hown e.symm)
  · intro j k hj
    by_cases e : j = M.n
    · subst e; rw [upd_eq] at hj; injection hj with hj; subst hj
      exact .inr ⟨Nat.le_refl _, hown, .inr ⟨i, by simp, l, hi, hown, rfl⟩⟩
    · rw [upd_ne _ _ e] at hj; exact .inl hj

theorem rel_same {P : Program} {μ : Map} {M : Store} {w w' : World} (hR : Rel P μ M w) (h : Same w w') : Rel P μ M w' ∧ Step μ M w μ M w' := by
  have hs : SLe w.shape? w'.shape? := fun b x hx => by unfold World.shape? at *; rw [h.heap]; exact hx
  refine ⟨⟨fun i l hi => ?_, fun i l hi => (hR.obj i l hi).mono (.refl _) hs (by rw [h.heap]), hR.excl⟩,
    ⟨.refl _, Nat.le_refl _, by rw [h.heap]; exact Nat.le_refl _, h.os, h.tape, h.output, hs, [], rfl, fun b _ _ => by rw [h.heap], fun _ _ h => .inl h⟩⟩
  rw [h.heap]; exact hR.dom i l hi

/-! ## reading -/
theorem row_rel {P : Program} {μ : Map} {M : Store} {w : World} (hR : Rel P μ M w) {b o n : Nat} {cs : List Value} (h : rowOf M b o n = some cs) {l : Loc} (hl : μ b = some l) :
    ∃ us, LRel (CRel P μ w.shape?) us cs ∧ us.length = n ∧ ∀ (j : Nat) (v : Value), us[j]? = some v → w.cell? ⟨l.b, l.o + o + j, none⟩ = some v := by
  unfold rowOf at h
  split at h
  · rename_i c e own hg
    split at h
    · rename_i hle
      injection h with h; subst h
      have ho := hR.obj _ _ hl
      rw [hg] at ho
      obtain ⟨_, cc, ce, fr, h2, h3, _⟩ := ho
      refine ⟨_, (h3.drop o).take n, ?_, ?_⟩
      · have := h3.1
        simp only [List.length_take, List.length_drop] at this ⊢
        omega
      · intro j v hv
        rw [List.getElem?_take] at hv
        split at hv
        · rename_i hj
          rw [List.getElem?_drop, List.getElem?_take] at hv
          split at hv
          · rw [List.getElem?_drop] at hv
            simp only [World.cell?, h2]
            have : l.o + o + j = l.o + (o + j) := by omega
            rw [this]
            simpa using hv
          · cases hv
        · cases hv
    · cases h
  · cases h

theorem run_loadRow {P : Program} {w : World} (b o n : Nat) {us : List Value} (hn : us.length = n) (h : ∀ (j : Nat) (v : Value), us[j]? = some v → w.cell? ⟨b, o + j, none⟩ = some v) :
    (loadCells ⟨b, o, none⟩ n).run P w = .ok us.toArray w := by
  subst hn
  exact run_loadCells_list w ⟨b, o, none⟩ us fun j v hv => by rw [addr_add]; exact h j v hv

theorem aload_run {P : Program} {μ : Map} {M : Store} {w : World} (hR : Rel P μ M w) {t : TypeId} {a ca r : Value} (h : aload P t a M = some r) (ha : VRel P μ w.shape? ca a) :
    ∃ cr, (Instr.loadAt t ca).run P w = .ok cr w ∧ VRel P μ w.shape? cr r := by
  unfold aload at h
  split at h
  · rename_i b o
    obtain ⟨d, hd, h⟩ := Option.bind_eq_some_iff.1 h
    obtain ⟨s, hs, h⟩ := Option.bind_eq_some_iff.1 h
    obtain ⟨cs, hc, h⟩ := Option.bind_eq_some_iff.1 h
    obtain ⟨y, rfl, hy⟩ := ha.pointer
    cases y <;> first | exact hy.elim | skip
    obtain ⟨_, l, hl, rfl⟩ := hy
    obtain ⟨us, h1, h2, h3⟩ := row_rel hR hc hl
    obtain ⟨cr, h4, h5⟩ := valOf_rel h h1
    refine ⟨cr, ?_, h5⟩
    unfold valOf at h4
    split at h4
    · rename_i hag
      injection h4 with h4; subst h4
      simp [Instr.loadAt, Instr.sureAddr, loadVar, run_isAgg' hd, hag, run_sizeOf' hs, run_loadRow (P := P) (w := w) l.b (l.o + o) s h2 h3]
    · rename_i hag
      split at h4
      · rename_i v
        injection h4 with h4; subst h4
        have := h3 0 v rfl
        simp at this
        simp [Instr.loadAt, Instr.sureAddr, loadVar, run_isAgg' hd, hag, this]
      · cases h4
  · cases h

/-- A result is read. -/
def resF (tmps : Array Value) : ResultVar → Sem Value
  | .tmp t => pure (tmps.getD t undef)
  | .cell a t => do loadVar t (← asAddr (tmps.getD a undef))
theorem results_eq (fn : Func) (tmps : Array Value) : results fn tmps = (do
    let vs ← fn.results.mapM (resF tmps)
    pure (if h : vs.size = 1 then vs[0] else .tuple vs)) := rfl

theorem ares_run {P : Program} {μ : Map} {M : Store} {w : World} (hR : Rel P μ M w) {a : AAct} {ca : Act} (hA : ∀ i : Nat, VRel P μ w.shape? (ca.tmps.getD i undef) (a.get i)) :
    ∀ (rs : List ResultVar) (vs : List Value), ares P rs a M = some vs → (∀ v ∈ vs, ∀ x, v ≠ .tuple x) →
      ∃ us, (rs.mapM (resF ca.tmps)).run P w = .ok us w ∧ LRel (DRel P μ w.shape?) us vs
  | [], vs, h, _ => by simp [ares] at h; subst h; exact ⟨[], rfl, .nil _⟩
  | .tmp t :: r, vs, h, hv => by
    simp only [ares] at h
    obtain ⟨q, hq, h⟩ := Option.bind_eq_some_iff.1 h
    injection h with h; subst h
    obtain ⟨us, h1, h2⟩ := ares_run hR hA r q hq (fun v hv' => hv v (by simp [hv']))
    have hd := hA t
    rcases hd.inv with hd | ⟨x, y, h3, h4, _⟩
    · exact ⟨_ :: us, by simp only [List.mapM_cons, resF, Sem.run_bind, Sem.run_pure, Result.andThen_ok, h1], .cons hd h2⟩
    · exact absurd h4 (hv _ (by simp) y)
  | .cell t ty :: r, vs, h, hv => by
    simp only [ares] at h
    obtain ⟨v, hv1, h⟩ := Option.bind_eq_some_iff.1 h
    obtain ⟨q, hq, h⟩ := Option.bind_eq_some_iff.1 h
    injection h with h; subst h
    obtain ⟨us, h1, h2⟩ := ares_run hR hA r q hq (fun v hv' => hv v (by simp [hv']))
    obtain ⟨cr, h5, h6⟩ := aload_run hR hv1 (hA t)
    have h7 : (do loadVar ty (← asAddr (ca.tmps.getD t undef)) : Sem Value).run P w = .ok cr w := by
      have : ∃ x, ca.tmps.getD t undef = .pointer (some x) := by
        unfold aload at hv1
        split at hv1
        · rename_i b o hb
          have := hA t
          rw [hb] at this
          obtain ⟨y, hy, hy2⟩ := this.pointer
          cases y <;> first | exact hy2.elim | exact ⟨_, hy⟩
        · cases hv1
      obtain ⟨x, hx⟩ := this
      rw [hx] at h5 ⊢
      simpa [Instr.loadAt, Instr.sureAddr, asAddr] using h5
    rcases h6.inv with hd | ⟨x, y, h3, h4, _⟩
    · refine ⟨cr :: us, ?_, .cons hd h2⟩
      simp only [Sem.run_bind] at h7
      simp only [List.mapM_cons, resF, Sem.run_bind, h7, Sem.run_pure, Result.andThen_ok, h1]
    · exact absurd h4 (hv _ (by simp) y)

end Go.Ab
