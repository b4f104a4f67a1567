/- Layer 15: inputs at one moment, by the program: the reader's state, its ends. -/
import Derived.Test.YtpacolplhcfamaaPY15a
import Derived.Test.YtpacolplhcfamaaPU3
namespace Go.G
open Go.Ab Go.Proofs Go.RowKit
set_option linter.unusedVariables false
set_option linter.unusedSimpArgs false
set_option maxRecDepth 100000

/-- What a reader has. -/
structure RSt where
  L : List (List UInt8)
  looks : Bool
  i : Nat
  vs : List (List UInt8)
  ts : List Nat
  over : Bool
  told : Nat
def RSt.new (L : List (List UInt8)) : RSt := ⟨L, false, 0, [], [], false, 0⟩
structure RSt.Wf (st : RSt) : Prop where
  i : st.over = false → st.L ≠ [] → st.i < st.L.length
  lk : st.over = false → st.looks = true → st.ts.length = st.L.length
  rd : st.over = false → st.looks = false → st.ts.length = st.i
  v : st.vs.length = st.ts.length
  le : st.ts.length ≤ st.L.length
  nil : st.over = false → st.looks = true → st.L ≠ []
def RSt.end (st : RSt) (k : Nat) : RSt := { st with over := true, told := k }
def RSt.begin (st : RSt) : RSt := { st with looks := false, i := 0, vs := [], ts := [] }
/-- A value out of a file. -/
def valS (p : List UInt8 → Bool) (s b : List UInt8) : Option (List UInt8) := if p s = true then (openF b).map (·.2) else some b
def RSt.more (st : RSt) (v : List UInt8) (z : Nat) : RSt :=
  if st.i + 1 = st.L.length then { st with looks := true, i := 0, vs := st.vs ++ [v], ts := st.ts ++ [z] } else { st with i := st.i + 1, vs := st.vs ++ [v], ts := st.ts ++ [z] }
def readS (fl : Fl) (p : List UInt8 → Bool) (st : RSt) : RSt × Nat := match fl (st.L.getD st.i []) with
  | none => (st.end 2, 2)
  | some q => match valS p (st.L.getD st.i []) q.1 with
    | none => (st.end 3, 3)
    | some v => if 256 < v.length then (st.end 3, 3) else (st.more v q.2, 0)
def lookS (fl : Fl) (st : RSt) : RSt × Nat :=
  if ((fl (st.L.getD st.i [])).map (·.2)).getD 0 ≠ st.ts.getD st.i 0 then (st.begin, 0)
  else if st.i + 1 = st.L.length then ({ st with i := st.i + 1 }.end 1, 1) else ({ st with i := st.i + 1 }, 0)
/-- A step. -/
def stepS (fl : Fl) (p : List UInt8 → Bool) (st : RSt) : RSt × Nat :=
  if st.over = true then (st, st.told) else if st.L = [] then (st.end 1, 1) else if st.looks = true then lookS fl st else readS fl p st

theorem RSt.Wf.new (L : List (List UInt8)) : (RSt.new L).Wf := ⟨fun _ h => List.length_pos_iff.2 h, fun _ h => (by cases h), fun _ _ => rfl, rfl, Nat.zero_le _, fun _ h => (by cases h)⟩
theorem RSt.Wf.end {st : RSt} (h : st.Wf) (k : Nat) : (st.end k).Wf := ⟨fun h => (by cases h), fun h => (by cases h), fun h => (by cases h), h.v, h.le, fun h => (by cases h)⟩
theorem RSt.Wf.begin {st : RSt} (h : st.Wf) : st.begin.Wf := ⟨fun _ h => List.length_pos_iff.2 h, fun _ h => (by cases h), fun _ _ => rfl, rfl, Nat.zero_le _, fun _ h => (by cases h)⟩
theorem RSt.Wf.step {st : RSt} (h : st.Wf) (fl : Fl) (p : List UInt8 → Bool) : (stepS fl p st).1.Wf := by
  unfold stepS
  split
  · exact h
  rename_i ho
  have ho : st.over = false := by simpa using ho
  split
  · exact h.end _
  rename_i hL
  have hi := h.i ho hL
  split
  · rename_i hl
    have h1 := h.lk ho hl
    unfold lookS
    split
    · exact h.begin
    split
    · exact ⟨fun h => (by cases h), fun h => (by cases h), fun h => (by cases h), h.v, h.le, fun h => (by cases h)⟩
    · exact ⟨fun _ _ => by simp only; omega, fun _ _ => h1, (fun _ h => by rw [show st.looks = false from h] at hl; cases hl), h.v, h.le, fun _ _ => hL⟩
  · rename_i hl
    have hl : st.looks = false := by simpa using hl
    have h1 := h.rd ho hl
    unfold readS
    split
    · exact h.end _
    split
    · exact h.end _
    split
    · exact h.end _
    unfold RSt.more
    split
    · rename_i h2
      refine ⟨fun _ hn => List.length_pos_iff.2 hn, fun _ _ => ?_, fun _ h => (by cases h), ?_, ?_, fun _ _ => hL⟩
      · simp only [List.length_append, List.length_singleton]; omega
      · simp only [List.length_append, List.length_singleton]; rw [h.v]
      · simp only [List.length_append, List.length_singleton]; omega
    · rename_i h2
      refine ⟨fun _ _ => by simp only; omega, (fun _ h => by rw [show st.looks = true from h] at hl; cases hl), fun _ _ => ?_, ?_, ?_, fun _ h => (by rw [show st.looks = true from h] at hl; cases hl)⟩
      · simp only [List.length_append, List.length_singleton]; omega
      · simp only [List.length_append, List.length_singleton]; rw [h.v]
      · simp only [List.length_append, List.length_singleton]; omega

abbrev nv (n : Nat) : Value := iv (n : Int)
/-- The lists of a reader. -/
structure RdI (M0 M : Store) (nm vv tt : Value) (L vs : List (List UInt8)) (ts : List Nat) : Prop where
  nm : LV sv Ty.string M nm L
  vv : NLs B Ty.sl_uint8 M0 M vv vs
  tt : NV nv Ty.int M0 M tt ts
theorem RdI.up {M0 M M' : Store} {nm vv tt : Value} {L vs : List (List UInt8)} {ts : List Nat} (h : RdI M0 M nm vv tt L vs ts) (k : Up M M') : RdI M0 M' nm vv tt L vs ts :=
  ⟨h.nm.up k, NLs.up By.up' h.vv k, Nw.up h.tt k⟩
theorem RdI.keep {M0 M M' : Store} {nm vv tt : Value} {L vs : List (List UInt8)} {ts : List Nat} (h : RdI M0 M nm vv tt L vs ts) (k : Keep Ty.sour_Read M M') : RdI M0 M' nm vv tt L vs ts :=
  ⟨Sl.keep h.nm (by decide) k, NLs.keep (By.keep' (by decide)) h.vv (by decide) k, Nw.keep h.tt (by decide) k⟩
abbrev rdC (nm mv vv tt : Value) (st : RSt) : List Value := [nm, mv, tv st.looks, nv st.i, vv, tt, tv st.over, nv st.told]
/-- A reader: its box; what it may touch. -/
def RdrR (M0 M : Store) (br : Nat) (mv : Value) (st : RSt) (O : List Nat) : Prop :=
  M0.n ≤ br ∧ st.Wf ∧ ∃ nm vv tt, Ob M br (rdC nm mv vv tt st) Ty.sour_Read ∧ RdI M0 M nm vv tt st.L st.vs st.ts ∧ O = br :: (kl vv ++ kl tt)
theorem RdrR.up {M0 M M' : Store} {br : Nat} {mv : Value} {st : RSt} {O : List Nat} (h : RdrR M0 M br mv st O) (k : Up M M') : RdrR M0 M' br mv st O := by
  obtain ⟨h1, h2, nm, vv, tt, h3, h4, h5⟩ := h
  exact ⟨h1, h2, nm, vv, tt, h3.up k, h4.up k, h5⟩
/-- What is touched is the reader's own, and was there. -/
theorem RdrR.own {M0 M : Store} {br : Nat} {mv : Value} {st : RSt} {O : List Nat} (h : RdrR M0 M br mv st O) : ∀ b ∈ O, M0.n ≤ b ∧ b < M.n := by
  obtain ⟨h1, h2, nm, vv, tt, h3, h4, h5⟩ := h
  intro b hb
  rw [h5] at hb
  rcases List.mem_cons.1 hb with rfl | hb
  · exact ⟨h1, h3.lt⟩
  · rcases List.mem_append.1 hb with hb | hb
    · obtain ⟨vs, g, _⟩ := h4.vv; exact g.bx_in (mem_kl.1 hb)
    · exact Nw.bx_in h4.tt (mem_kl.1 hb)
theorem rd8 {M : Store} {b : Nat} {c0 c1 c2 c3 c4 c5 c6 c7 : Value} {T : TypeId} (o : Ob M b [c0, c1, c2, c3, c4, c5, c6, c7] T) :
    (∀ K : Value → Prop, OP (ld 1 false (.pointer (some ⟨b, 0, none⟩)) M) K = K c0) ∧ (∀ K : Value → Prop, OP (ld 1 false (.pointer (some ⟨b, 1, none⟩)) M) K = K c1) ∧ (∀ K : Value → Prop, OP (ld 1 false (.pointer (some ⟨b, 2, none⟩)) M) K = K c2) ∧ (∀ K : Value → Prop, OP (ld 1 false (.pointer (some ⟨b, 3, none⟩)) M) K = K c3) ∧
    (∀ K : Value → Prop, OP (ld 1 false (.pointer (some ⟨b, 4, none⟩)) M) K = K c4) ∧ (∀ K : Value → Prop, OP (ld 1 false (.pointer (some ⟨b, 5, none⟩)) M) K = K c5) ∧ (∀ K : Value → Prop, OP (ld 1 false (.pointer (some ⟨b, 6, none⟩)) M) K = K c6) ∧ (∀ K : Value → Prop, OP (ld 1 false (.pointer (some ⟨b, 7, none⟩)) M) K = K c7) :=
  ⟨fun K => by rw [o.ld (v := c0) rfl, OP_some], fun K => by rw [o.ld (v := c1) rfl, OP_some], fun K => by rw [o.ld (v := c2) rfl, OP_some], fun K => by rw [o.ld (v := c3) rfl, OP_some],
   fun K => by rw [o.ld (v := c4) rfl, OP_some], fun K => by rw [o.ld (v := c5) rfl, OP_some], fun K => by rw [o.ld (v := c6) rfl, OP_some], fun K => by rw [o.ld (v := c7) rfl, OP_some]⟩
section
variable {M0 M : Store} {br : Nat} {mv : Value} {st : RSt} {O : List Nat}
theorem end_ok (h : RdrR M0 M br mv st O) (k : Nat) : R F.sour_Read_end #[pB br, nv k] M fun v M' => Ch O M M' ∧ Keep Ty.sour_Read M M' ∧ v = nv k ∧ RdrR M0 M' br mv (st.end k) O := by
  refine R.cps fun Q hQ => ?_
  obtain ⟨h1, h2, nm, vv, tt, h3, h4, h5⟩ := h
  apply T_sour_Read_end
  unfold S_sour_Read_end
  simp only [nilc_p, fad0]
  refine s_st1 (i := 6) (w := tv true) h3 (by simp) (cells_tv _) (oc_tv _) fun M1 c1 o1 _ => ?_
  refine s_st1 (i := 7) (w := nv k) o1 (by simp) (cells_iv _) (oc_iv _) fun M2 c2 o2 _ => ?_
  have kk := (c1.keepT h3).trans (c2.keepT o1)
  refine ⟨rfl, hQ _ _ ⟨(c1.trans c2).mono fun b hb => by rw [h5]; simp at hb; simp [hb], kk, rfl, h1, h2.end k, nm, vv, tt, o2, h4.keep kk, h5⟩⟩
theorem begin_ok (h : RdrR M0 M br mv st O) (hov : st.over = false) : R F.sour_Read_begin #[pB br] M fun v M' => Ch O M M' ∧ Keep Ty.sour_Read M M' ∧ v = nv 0 ∧ ∃ O', RdrR M0 M' br mv st.begin O' ∧ ∀ b ∈ O', b ∈ O := by
  refine R.cps fun Q hQ => ?_
  obtain ⟨h1, h2, nm, vv, tt, h3, h4, h5⟩ := h
  apply T_sour_Read_begin
  unfold S_sour_Read_begin
  simp only [nilc_p, fad0]
  refine s_st1 (i := 2) (w := tv false) h3 (by simp) (cells_tv _) (oc_tv _) fun M1 c1 o1 _ => ?_
  refine s_st1 (i := 3) (w := nv 0) o1 (by simp) (cells_iv _) (oc_iv _) fun M2 c2 o2 _ => ?_
  refine s_st1 (i := 4) (w := .slice none 0 0) o2 (by simp) (cells_sl _ _ _) (oc_sl _ _ _) fun M3 c3 o3 _ => ?_
  refine s_st1 (i := 5) (w := .slice none 0 0) o3 (by simp) (cells_sl _ _ _) (oc_sl _ _ _) fun M4 c4 o4 _ => ?_
  have kk := (((c1.keepT h3).trans (c2.keepT o1)).trans (c3.keepT o2)).trans (c4.keepT o3)
  refine ⟨rfl, hQ _ _ ⟨(((c1.trans c2).trans c3).trans c4).mono fun b hb => by rw [h5]; simp at hb; simp [hb], kk, rfl, [br], ⟨h1, h2.begin, nm, .slice none 0 0, .slice none 0 0, o4, ⟨(h4.keep kk).nm, NLs.nil, Nw.nil _ _ _ _⟩, rfl⟩, fun b hb => by rw [h5]; simp at hb; simp [hb]⟩⟩
end
end Go.G
