/- Layer 15, plainly: a reader of files that are written between its steps tells what all were at one moment. -/
import Derived.Test.YtpacolplhcfamaaPY15p
namespace Go.G
open Go.Ab Go.Proofs Go.RowKit
set_option linter.unusedVariables false
set_option linter.unusedSimpArgs false
set_option maxRecDepth 100000

abbrev A4 : List (List UInt8) := [[115], [116], [97], [98]]
/-- A file's value. -/
def valF (fl : Fl) (s : List UInt8) : List UInt8 := match fl s with
  | none => if madeP s = true then ((openF []).map (·.2)).getD [] else []
  | some q => if madeP s = true then ((openF q.1).map (·.2)).getD [] else q.1
/-- The files are as the statement writes them. -/
def Good (fl : Fl) (last : Nat) : Prop := ∀ s ∈ A4, ∃ k z, k ≤ 1 ∧ z ≤ last ∧ fl s = some (wrC s k, z)
theorem op_w0 : openF (makeF [112] [48]) = some ([112], [48]) := by kernel_rfl
theorem op_w {k : Nat} (h : k ≤ 1) : openF (makeF [112] [wb k]) = some ([112], [wb k]) := by
  have : k = 0 ∨ k = 1 := by omega
  rcases this with rfl | rfl
  · rw [show wb 0 = 48 by decide]; exact op_w0
  · rw [wb1]; exact op_w1
theorem val_w {s : List UInt8} {k : Nat} (h : k ≤ 1) : valS madeP s (wrC s k) = some [wb k] := by
  unfold valS wrC
  cases hm : madeP s with
  | true => rw [if_pos rfl, if_pos rfl, op_w h]; rfl
  | false => rw [if_neg (by decide), if_neg (by decide)]
theorem valF_w {fl : Fl} {s : List UInt8} {k z : Nat} (h : k ≤ 1) (hf : fl s = some (wrC s k, z)) : valF fl s = [wb k] := by
  unfold valF
  rw [hf]
  simp only
  unfold wrC
  cases hm : madeP s with
  | true => rw [if_pos rfl, if_pos rfl, op_w h]; rfl
  | false => rw [if_neg (by decide), if_neg (by decide)]
theorem Good.at {fl : Fl} {last : Nat} (h : Good fl last) {s : List UInt8} (hs : s ∈ A4) : ∃ q, fl s = some q ∧ valS madeP s q.1 = some (valF fl s) ∧ (valF fl s).length = 1 ∧ q.2 ≤ last ∧ stmF fl s = q.2 ∧ outR fl madeP s = 1 := by
  obtain ⟨k, z, hk, hz, hf⟩ := h s hs
  have hv := val_w (s := s) hk
  have hF := valF_w hk hf
  refine ⟨_, hf, by rw [hF]; exact hv, by rw [hF]; rfl, hz, by unfold stmF; rw [hf]; rfl, ?_⟩
  unfold outR; rw [hf]; simp only; rw [hv]; rfl
theorem Good.put {fl : Fl} {last : Nat} (h : Good fl last) {s : List UInt8} {k : Nat} (hk : k ≤ 1) : Good (putF fl s (wrC s k) (last + 1)) (last + 1) := by
  intro t ht
  by_cases e : t = s
  · subst e; exact ⟨k, last + 1, hk, Nat.le_refl _, by unfold putF; rw [if_pos rfl]⟩
  · obtain ⟨k', z, h1, h2, h3⟩ := h t ht
    exact ⟨k', z, h1, by omega, by unfold putF; rw [if_neg e]; exact h3⟩
theorem getD_lt {α : Type} {l : List α} {m : Nat} {d : α} (h : m < l.length) : l.getD m d = l[m] := by simp [h]
/-- What a reader's values were. -/
structure MoS (fl : Fl) (L : List (List UInt8)) (last : Nat) (T : List (List (List UInt8))) (st : RSt) : Prop where
  wf : st.Wf
  hL : st.L = L
  ne : L ≠ []
  ov : st.over = false
  vs1 : ∀ v ∈ st.vs, v.length = 1
  val : ∀ m < st.ts.length, st.ts.getD m 0 ≤ last ∧ (stmF fl (L.getD m []) = st.ts.getD m 0 → valF fl (L.getD m []) = st.vs.getD m [])
  lk : st.looks = true → st.i = 0 ∨ ∃ R ∈ T, R.length = L.length ∧ ∀ m < L.length, (m < st.i → R.getD m [] = st.vs.getD m []) ∧ (st.i ≤ m → stmF fl (L.getD m []) = st.ts.getD m 0 → R.getD m [] = st.vs.getD m [])
section
variable {fl : Fl} {L : List (List UInt8)} {last : Nat} {T : List (List (List UInt8))} {st : RSt}
theorem MoS.put (h : MoS fl L last T st) (s b : List UInt8) : MoS (putF fl s b (last + 1)) L (last + 1) T st := by
  have key : ∀ t z, z ≤ last → stmF (putF fl s b (last + 1)) t = z → t ≠ s := fun t z hz ht e => by
    subst e
    unfold stmF putF at ht
    rw [if_pos rfl] at ht
    have ht : last + 1 = z := ht
    omega
  have same : ∀ t, t ≠ s → stmF (putF fl s b (last + 1)) t = stmF fl t ∧ valF (putF fl s b (last + 1)) t = valF fl t := fun t ht => by
    unfold stmF valF putF; rw [if_neg ht]; exact ⟨rfl, rfl⟩
  refine ⟨h.wf, h.hL, h.ne, h.ov, h.vs1, fun m hm => ?_, fun hlk => ?_⟩
  · obtain ⟨h1, h2⟩ := h.val m hm
    refine ⟨by omega, fun he => ?_⟩
    obtain ⟨g1, g2⟩ := same _ (key _ _ h1 he)
    rw [g2]; exact h2 (by rw [← g1]; exact he)
  · rcases h.lk hlk with h1 | ⟨R, hR, hRl, h1⟩
    · exact .inl h1
    · refine .inr ⟨R, hR, hRl, fun m hm => ⟨(h1 m hm).1, fun hi he => ?_⟩⟩
      have hts := h.wf.lk h.ov hlk
      rw [h.hL] at hts
      obtain ⟨g1, g2⟩ := same _ (key _ _ (h.val m (by omega)).1 he)
      exact (h1 m hm).2 hi (by rw [← g1]; exact he)
theorem MoS.more (h : MoS fl L last T st) (R : List (List UInt8)) : MoS fl L last (T ++ [R]) st :=
  ⟨h.wf, h.hL, h.ne, h.ov, h.vs1, h.val, fun hlk => by
    rcases h.lk hlk with h1 | ⟨R, hR, h1⟩
    · exact .inl h1
    · exact .inr ⟨R, List.mem_append_left _ hR, h1⟩⟩
theorem getD_snoc_lt {α : Type} {l : List α} {x d : α} {m : Nat} (h : m < l.length) : (l ++ [x]).getD m d = l.getD m d := by
  simp [List.getD_eq_getElem?_getD, List.getElem?_append_left h]
theorem getD_snoc_eq {α : Type} {l : List α} {x d : α} : (l ++ [x]).getD l.length d = x := by simp [List.getD_eq_getElem?_getD]
/-- What a step comes to, where all were so ahead of it. -/
theorem MoS.step (hg : Good fl last) (hA : ∀ s ∈ L, s ∈ A4) (h : MoS fl L last T st) :
    ((stepS fl madeP st).2 = 0 ∧ MoS fl L last (T ++ [L.map (valF fl)]) (stepS fl madeP st).1) ∨
    ((stepS fl madeP st).2 = 1 ∧ (stepS fl madeP st).1.L = L ∧ (stepS fl madeP st).1.over = true ∧ (stepS fl madeP st).1.told = 1 ∧ (stepS fl madeP st).1.vs ∈ T ++ [L.map (valF fl)] ∧ (∀ v ∈ (stepS fl madeP st).1.vs, v.length = 1) ∧ (stepS fl madeP st).1.ts = st.ts) := by
  have hwf := h.wf.step fl madeP
  obtain ⟨h1, h2, h3, h4, h5, h6, h7⟩ := h
  have hLs : st.L ≠ [] := by rw [h2]; exact h3
  have hi := h1.i h4 hLs
  rw [h2] at hi
  have e1 : st.L.getD st.i [] = L[st.i] := by rw [h2]; simp [hi]
  have hs := hA _ (List.getElem_mem hi)
  have hv := h1.v
  unfold stepS at hwf ⊢
  rw [if_neg (by rw [h4]; decide), if_neg hLs] at hwf ⊢
  cases hlk : st.looks with
  | false =>
    rw [hlk, if_neg (by decide)] at hwf
    rw [if_neg (by decide)]
    have hts := h1.rd h4 hlk
    obtain ⟨q, f1, f2, f3, f4, f5, f6⟩ := hg.at hs
    have er : readS fl madeP st = (st.more (valF fl L[st.i]) q.2, 0) := by
      unfold readS
      rw [e1, f1]
      simp only
      rw [f2]
      simp only
      rw [if_neg (by omega)]
    rw [er] at hwf ⊢
    have hval : ∀ m < (st.ts ++ [q.2]).length, (st.ts ++ [q.2]).getD m 0 ≤ last ∧ (stmF fl (L.getD m []) = (st.ts ++ [q.2]).getD m 0 → valF fl (L.getD m []) = (st.vs ++ [valF fl L[st.i]]).getD m []) := fun m hm => by
      simp only [List.length_append, List.length_singleton] at hm
      by_cases hml : m < st.ts.length
      · rw [getD_snoc_lt hml, getD_snoc_lt (by omega)]
        exact h6 m hml
      · have : m = st.ts.length := by omega
        subst this
        rw [getD_snoc_eq, ← hv, getD_snoc_eq, hv]
        refine ⟨f4, fun _ => ?_⟩
        rw [hts, getD_lt hi]
    have hvs : ∀ v ∈ st.vs ++ [valF fl L[st.i]], v.length = 1 := fun v hv => by
      rcases List.mem_append.1 hv with hv | hv
      · exact h5 v hv
      · rw [List.mem_singleton.1 hv]; exact f3
    refine .inl ⟨rfl, ?_⟩
    simp only at hwf ⊢
    unfold RSt.more at hwf ⊢
    split
    · rename_i he
      rw [if_pos he] at hwf
      exact ⟨hwf, h2, h3, h4, hvs, hval, fun _ => .inl rfl⟩
    · rename_i he
      rw [if_neg he] at hwf
      exact ⟨hwf, h2, h3, h4, hvs, hval, (fun hh => by rw [show st.looks = true from hh] at hlk; cases hlk)⟩
  | true =>
    rw [hlk, if_pos rfl] at hwf
    rw [if_pos rfl]
    have hts := h1.lk h4 hlk
    rw [h2] at hts
    have e2 : ((fl (st.L.getD st.i [])).map (·.2)).getD 0 = stmF fl L[st.i] := by rw [e1]; rfl
    have hRow : ∃ R ∈ T ++ [L.map (valF fl)], R.length = L.length ∧ ∀ m < L.length, (m < st.i → R.getD m [] = st.vs.getD m []) ∧ (st.i ≤ m → stmF fl (L.getD m []) = st.ts.getD m 0 → R.getD m [] = st.vs.getD m []) := by
      rcases h7 hlk with g | ⟨R, g1, g2, g3⟩
      · refine ⟨L.map (valF fl), by simp, by simp, fun m hm => ⟨fun h => by omega, fun _ he => ?_⟩⟩
        have := (h6 m (by omega)).2 he
        rw [← this, getD_lt hm, getD_lt (by simpa using hm), List.getElem_map]
      · exact ⟨R, List.mem_append_left _ g1, g2, g3⟩
    obtain ⟨R, g1, g2, g3⟩ := hRow
    unfold lookS at hwf ⊢
    rw [e2] at hwf ⊢
    by_cases hne : stmF fl L[st.i] ≠ st.ts.getD st.i 0
    · rw [if_pos hne] at hwf ⊢
      exact .inl ⟨rfl, hwf, h2, h3, h4, fun v hv => (by cases hv), fun m hm => (by simp [RSt.begin] at hm), fun hh => (by cases hh)⟩
    · rw [if_neg hne] at hwf ⊢
      have heq : stmF fl L[st.i] = st.ts.getD st.i 0 := Classical.not_not.1 hne
      have hRi : ∀ m < L.length, m < st.i + 1 → R.getD m [] = st.vs.getD m [] := fun m hm hmi => by
        by_cases hlt : m < st.i
        · exact (g3 m hm).1 hlt
        · have : m = st.i := by omega
          subst this
          exact (g3 st.i hm).2 (Nat.le_refl _) (by rw [getD_lt hi]; exact heq)
      by_cases hfin : st.i + 1 = st.L.length
      · rw [if_pos hfin]
        refine .inr ⟨rfl, h2, rfl, rfl, ?_, h5, rfl⟩
        have : st.vs = R := by
          refine List.ext_getElem (by omega) fun m hm1 hm2 => ?_
          have := hRi m (by omega) (by rw [h2] at hfin; omega)
          rw [getD_lt hm2, getD_lt hm1] at this
          exact this.symm
        show st.vs ∈ _
        rw [this]; exact g1
      · rw [if_neg hfin] at hwf ⊢
        exact .inl ⟨rfl, hwf, h2, h3, h4, h5, h6, fun _ => .inr ⟨R, g1, g2, fun m hm => ⟨fun hmi => hRi m hm hmi, fun hmi he => (g3 m hm).2 (by have : st.i + 1 ≤ m := hmi; omega) he⟩⟩⟩
end
/-! ## its end -/
/-- So many steps are enough, where nobody writes any more. -/
def Fuel (fl : Fl) (L : List (List UInt8)) (st : RSt) (f : Nat) : Prop :=
  (∃ j < L.length, AtR fl madeP L st j ∧ (L.length - j) + L.length ≤ f) ∨ (∃ j < L.length, AtL fl madeP L st j ∧ L.length - j ≤ f) ∨
  (st.looks = false ∧ st.i < L.length ∧ (L.length - st.i) + 3 * L.length ≤ f) ∨ (st.looks = true ∧ st.i < L.length ∧ (L.length - st.i) + 2 * L.length ≤ f)
theorem Fuel.pos {fl : Fl} {L : List (List UInt8)} {st : RSt} {f : Nat} (h : Fuel fl L st f) : 0 < f := by
  rcases h with ⟨j, hj, _, h⟩ | ⟨j, hj, _, h⟩ | ⟨_, hj, h⟩ | ⟨_, hj, h⟩ <;> omega
theorem Fuel.any {fl : Fl} {L : List (List UInt8)} {last : Nat} {T : List (List (List UInt8))} {st : RSt} (h : MoS fl L last T st) {f : Nat} (hf : 4 * L.length ≤ f) : Fuel fl L st f := by
  have hi := h.wf.i h.ov (by rw [h.hL]; exact h.ne)
  rw [h.hL] at hi
  cases hlk : st.looks with
  | false => exact .inr (.inr (.inl ⟨hlk, hi, by omega⟩))
  | true => exact .inr (.inr (.inr ⟨hlk, hi, by omega⟩))
/-- Nothing was written since the reader began. -/
def Clean (fl : Fl) (L : List (List UInt8)) (st : RSt) : Prop := (∃ j < L.length, AtR fl madeP L st j) ∨ ∃ j < L.length, AtL fl madeP L st j
section
variable {fl : Fl} {L : List (List UInt8)} {last : Nat} {T : List (List (List UInt8))} {st : RSt}
theorem Clean.step (hg : Good fl last) (hA : ∀ s ∈ L, s ∈ A4) (h : Clean fl L st) : ((stepS fl madeP st).2 = 0 ∧ Clean fl L (stepS fl madeP st).1) ∨ ((stepS fl madeP st).2 = 1 ∧ st.ts = L.map (stmF fl)) := by
  rcases h with ⟨j, hj, h⟩ | ⟨j, hj, h⟩
  · rcases h.step hj with ⟨g1, g2, ⟨g3, g4⟩ | ⟨g3, g4⟩⟩ | ⟨g1, g2, g3, g4⟩
    · exact .inl ⟨g1, .inl ⟨_, g3, g4⟩⟩
    · exact .inl ⟨g1, .inr ⟨0, by omega, g4⟩⟩
    · obtain ⟨q, f1, f2, f3, f4, f5, f6⟩ := hg.at (hA _ (List.getElem_mem hj))
      exact absurd f6 g1
  · rcases h.step hj with ⟨g1, g2, g3⟩ | ⟨g1, g2, g3⟩
    · exact .inl ⟨g2, .inr ⟨_, g1, g3⟩⟩
    · exact .inr ⟨g2, h.ts⟩
theorem Fuel.step (hg : Good fl last) (hA : ∀ s ∈ L, s ∈ A4) (hm : MoS fl L last T st) {f : Nat} (h : Fuel fl L st f) : (stepS fl madeP st).2 = 1 ∨ Fuel fl L (stepS fl madeP st).1 (f - 1) := by
  have hs : ∀ j (hj : j < L.length), outR fl madeP L[j] = 1 := fun j hj => by
    obtain ⟨q, f1, f2, f3, f4, f5, f6⟩ := hg.at (hA _ (List.getElem_mem hj)); exact f6
  rcases h with ⟨j, hj, h, hf⟩ | ⟨j, hj, h, hf⟩ | ⟨hlk, hi, hf⟩ | ⟨hlk, hi, hf⟩
  · rcases h.step hj with ⟨g1, g2, ⟨g3, g4⟩ | ⟨g3, g4⟩⟩ | ⟨g1, g2, g3, g4⟩
    · exact .inr (.inl ⟨_, g3, g4, by omega⟩)
    · exact .inr (.inr (.inl ⟨0, by omega, g4, by omega⟩))
    · exact absurd (hs j hj) g1
  · rcases h.step hj with ⟨g1, g2, g3⟩ | ⟨g1, g2, g3⟩
    · exact .inr (.inr (.inl ⟨_, g1, g3, by omega⟩))
    · exact .inl g2
  · refine .inr ?_
    obtain ⟨q, f1, f2, f3, f4, f5, f6⟩ := hg.at (hA _ (List.getElem_mem hi))
    have e1 : st.L.getD st.i [] = L[st.i] := by rw [hm.hL]; simp [hi]
    have er : (stepS fl madeP st).1 = st.more (valF fl L[st.i]) q.2 := by
      unfold stepS
      rw [if_neg (by rw [hm.ov]; decide), if_neg (by rw [hm.hL]; exact hm.ne), if_neg (by rw [hlk]; decide)]
      unfold readS
      rw [e1, f1]
      simp only
      rw [f2]
      simp only
      rw [if_neg (by omega)]
    rw [er]
    unfold RSt.more
    rw [hm.hL]
    split
    · exact .inr (.inr (.inr ⟨rfl, by show 0 < L.length; omega, by show L.length - 0 + 2 * L.length ≤ f - 1; omega⟩))
    · exact .inr (.inr (.inl ⟨hlk, by show st.i + 1 < L.length; omega, by show L.length - (st.i + 1) + 3 * L.length ≤ f - 1; omega⟩))
  · have e1 : st.L.getD st.i [] = L[st.i] := by rw [hm.hL]; simp [hi]
    unfold stepS
    rw [if_neg (by rw [hm.ov]; decide), if_neg (by rw [hm.hL]; exact hm.ne), if_pos hlk]
    unfold lookS
    rw [hm.hL]
    split
    · refine .inr (.inl ⟨0, by omega, ⟨hm.hL, rfl, rfl, ?_, hm.ov, fun v hv => (by cases hv), fun s hs => (by cases hs)⟩, by omega⟩)
      rfl
    · split
      · exact .inl rfl
      · exact .inr (.inr (.inr (.inr ⟨hlk, by show st.i + 1 < L.length; omega, by show L.length - (st.i + 1) + 2 * L.length ≤ f - 1; omega⟩)))
end
end Go.G
