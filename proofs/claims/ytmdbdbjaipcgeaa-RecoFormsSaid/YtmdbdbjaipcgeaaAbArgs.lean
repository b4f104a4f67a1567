/- What is handed in, as the abstract machine's memory. -/
import Derived.Test.YtmdbdbjaipcgeaaAbLib
import Derived.Deep.Matrix
import Derived.SliceStrings
set_option linter.unusedVariables false
set_option linter.unusedSimpArgs false
namespace Go.Ab
open Go.RowKit Go.ChangeShapes Go.WideShapes Go.ChangeAt

/-- One object more that is not a call's own. -/
theorem rel_add {P : Program} {μ : Map} {M : Store} {w : World} (hR : Rel P μ M w) (hro : ∀ i l, μ i = some l → l.own = false) {b o : Nat} {cc : Array Value} {ce : TypeId} {fr : Nat × Nat} (hb : w.heap[b]? = some (.cells cc ce fr))
    {c : List Value} (hc : LRel (CRel P μ w.shape?) ((cc.toList.drop o).take c.length) c) (e : TypeId) :
    Rel P (upd μ M.n ⟨b, o, false⟩) (M.push (some (.inl (c, e, false)))) w ∧ MLe μ (upd μ M.n ⟨b, o, false⟩) ∧ (∀ i l, upd μ M.n ⟨b, o, false⟩ i = some l → l.own = false) := by
  have hle := MLe.upd (l := ⟨b, o, false⟩) hR.fresh
  have hown : ∀ i l, upd μ M.n ⟨b, o, false⟩ i = some l → l.own = false := by
    intro i l hi
    by_cases e : i = M.n
    · subst e; rw [upd_eq] at hi; injection hi with hi; subst hi; rfl
    · rw [upd_ne _ _ e] at hi; exact hro i l hi
  refine ⟨⟨?_, ?_, ?_⟩, hle, hown⟩
  · intro i l hi
    by_cases e : i = M.n
    · subst e; rw [upd_eq] at hi; injection hi with hi; subst hi
      exact ⟨by simp, (Array.getElem?_eq_some_iff.1 hb).1⟩
    · rw [upd_ne _ _ e] at hi
      have := hR.dom _ _ hi
      exact ⟨by simp; omega, this.2⟩
  · intro i l hi
    by_cases e : i = M.n
    · subst e; rw [upd_eq] at hi; injection hi with hi; subst hi
      rw [Store.get_push_eq]
      exact ⟨rfl, cc, ce, fr, hb, hc.mono fun _ _ => CRel.mono hle (.refl _), fun h => by cases h⟩
    · rw [upd_ne _ _ e] at hi
      rw [Store.get_push_ne _ _ e]
      have := hR.obj i l hi
      cases ho : M.get i with
      | none => trivial
      | some x =>
        rw [ho] at this
        match x, this with
        | .inl (c, e, own), ⟨h1, cc, ce, fr, h2, h3, h4⟩ => exact ⟨h1, cc, ce, fr, h2, h3.mono fun _ _ => CRel.mono hle (.refl _), h4⟩
        | .inr (.inl es), ⟨h1, en, ck, h2, h3⟩ => exact ⟨h1, en, ck, h2, h3.1, fun i x kv a b => ⟨((h3.2 i x kv a b).1).mono hle (.refl _), ((h3.2 i x kv a b).2.1).mono hle (.refl _), (h3.2 i x kv a b).2.2⟩⟩
        | .inr (.inr none), h => exact h
        | .inr (.inr (some r)), ⟨h1, q, h2, h3⟩ => exact ⟨h1, q, h2, h3.mono hle (.refl _)⟩
  · intro i j l k hi hj hne h1 h2 ho
    rw [hown i l hi] at ho; cases ho

/-- The state of what is being laid. -/
structure Lay (P : Program) (w : World) (μ : Map) (M : Store) : Prop where
  rel : Rel P μ M w
  ro : ∀ i l, μ i = some l → l.own = false

theorem Lay.start {P : Program} (w : World) : Lay P w (fun _ => none) M00 := ⟨rel_empty w, fun _ _ h => by cases h⟩

/-- An empty slice. -/
theorem sl_empty {P : Program} {μ : Map} {sh : Shp} (a : Option Addr) (c : Nat) (hc : c ≤ maxLen) (h : a = none → c = 0) : ∃ a', (∀ x, a' = some x → x.spot = none) ∧ SlRel P μ sh a 0 c a' 0 2 := by
  cases a with
  | none => exact ⟨none, (fun _ h => by cases h), { len := rfl, le := Nat.zero_le _, max := hc, full := (fun h => by cases h), some_ := rfl, nil := (fun _ => ⟨rfl, h rfl⟩), addr := (fun h => by rcases h with h | h <;> omega) }⟩
  | some x => exact ⟨some ⟨0, 0, none⟩, (fun x h => by injection h with h; subst h; rfl), { len := rfl, le := Nat.zero_le _, max := hc, full := (fun h => by cases h), some_ := rfl, nil := (fun h => by cases h), addr := (fun h => by rcases h with h | h <;> omega) }⟩

theorem cells_window {w : World} {a : Addr} {n : Nat} {f : Nat → Value} (hn : 0 < n) (h : ∀ i, i < n → w.cell? (a.add i) = some (f i)) :
    a.spot = none ∧ ∃ cc ce fr, w.heap[a.block]? = some (.cells cc ce fr) ∧ (cc.toList.drop a.off).take n = (List.range n).map f := by
  have h0 := h 0 hn
  have e0 : a.add 0 = a := by simp [Addr.add]
  rw [e0] at h0
  unfold World.cell? at h0
  split at h0
  · rename_i cc ce fr hb
    split at h0
    · cases h0
    · rename_i hs
      have hs' : a.spot = none := by cases hsp : a.spot with | none => rfl | some x => rw [hsp] at hs; simp at hs
      refine ⟨hs', cc, ce, fr, hb, ?_⟩
      have hall : ∀ i, i < n → cc.toList[a.off + i]? = some (f i) := by
        intro i hi
        have := h i hi
        obtain ⟨b, o, sp⟩ := a
        simp only at hs' hb
        subst hs'
        rw [addr_plus] at this
        unfold World.cell? at this
        simp only [hb] at this
        simpa using this
      apply List.ext_getElem?
      intro i
      rw [List.getElem?_take, List.getElem?_drop, List.getElem?_map]
      by_cases hi : i < n
      · rw [if_pos hi, hall i hi, List.getElem?_range hi]; rfl
      · rw [if_neg hi, List.getElem?_eq_none (by simp; omega)]; rfl
  · cases h0

/-- A slice whose elements are told one by one. -/
theorem lay_row {P : Program} {w : World} {μ : Map} {M : Store} (hL : Lay P w μ M) {a : Addr} {n c : Nat} (hnc : n ≤ c) (hc : c ≤ maxLen) (hn : 0 < n) {f : Nat → Value} {vs : List Value} (hf : ∀ i, i < n → w.cell? (a.add i) = some (f i))
    (hvs : LRel (CRel P μ w.shape?) ((List.range n).map f) vs) (e : TypeId) :
    ∃ μ', Lay P w μ' (M.push (some (.inl (vs, e, false)))) ∧ MLe μ μ' ∧ VRel P μ' w.shape? (.slice (some a) n c) (.slice (some ⟨M.n, 0, none⟩) n (n + 2)) ∧ Sl 1 e (M.push (some (.inl (vs, e, false)))) (.slice (some ⟨M.n, 0, none⟩) n (n + 2)) n vs := by
  obtain ⟨hs, cc, ce, fr, hb, hwin⟩ := cells_window hn hf
  have hlen : vs.length = n := by have := hvs.1; simpa using this.symm
  have hc' : LRel (CRel P μ w.shape?) ((cc.toList.drop a.off).take vs.length) vs := by rw [hlen, hwin]; exact hvs
  obtain ⟨h1, h2, h3⟩ := rel_add hL.rel hL.ro hb hc' e
  refine ⟨_, ⟨h1, h3⟩, h2, ?_, by rw [hlen, Nat.mul_one], _, _, rfl, ?_, ?_⟩
  · refine VRel.of_B (show SlRel P _ _ _ _ _ _ _ _ from { len := rfl, le := hnc, max := hc, full := (fun h => by omega), some_ := rfl, nil := (fun h => by cases h), addr := ?_ })
    intro _ x hx
    injection hx with hx; subst hx
    refine ⟨a, rfl, ⟨rfl, ⟨a.block, a.off, false⟩, upd_eq _ _ _, ?_⟩, ?_⟩
    · obtain ⟨b, o, sp⟩ := a; simp only at hs; subst hs; rfl
    · intro l hl ho
      rw [upd_eq] at hl; injection hl with hl; subst hl; cases ho
  · intro x hx; injection hx with hx; subst hx; rfl
  · intro _
    exact ⟨M.n, 0, vs, e, false, rfl, Store.get_push_eq _ _, (fun h => by cases h), by omega, by rw [List.drop_zero, List.take_of_length_le (by omega)]⟩

theorem crel_int {P : Program} {μ : Map} {sh : Shp} (k : IntKind) (n : Int) : CRel P μ sh (.int k n) (.int k n) := ⟨rfl, rfl⟩

/-- Bytes. -/
theorem lay_bytes {P : Program} {w : World} {μ : Map} {M : Store} (hL : Lay P w μ M) {a : Option Addr} {n c : Nat} (hnc : n ≤ c) (hc : c ≤ maxLen) (ha : a = none → c = 0) {zs : List Int} (hz : n ≤ zs.length)
    (hf : ∀ x, a = some x → ∀ i, i < n → w.cell? (x.add i) = some (.int .u8 (zs.getD i 0))) (hw : ∀ z ∈ zs, (Lit.int .u8 z).wf = true) (e : TypeId) :
    ∃ μ' M' v l, Lay P w μ' M' ∧ MLe μ μ' ∧ Up M M' ∧ VRel P μ' w.shape? (.slice a n c) v ∧ By e M' v l ∧ l.length = n := by
  by_cases hn : 0 < n
  · cases a with
    | none => have := ha rfl; omega
    | some x =>
      have hl : ((zs.take n).map fun z => UInt8.ofNat z.toNat).length = n := by simp; omega
      have hvs : LRel (CRel P μ w.shape?) ((List.range n).map fun i => Value.int .u8 (zs.getD i 0)) (((zs.take n).map fun z => UInt8.ofNat z.toNat).map bv) := by
        have : (List.range n).map (fun i => Value.int .u8 (zs.getD i 0)) = ((zs.take n).map fun z => UInt8.ofNat z.toNat).map bv := by
          apply List.ext_getElem?
          intro i
          rw [List.getElem?_map, List.getElem?_map, List.getElem?_map, List.getElem?_take]
          by_cases hi : i < n
          · have hzi : i < zs.length := by omega
            rw [if_pos hi, List.getElem?_range hi, List.getElem?_eq_getElem hzi]
            have hwz := hw zs[i] (List.getElem_mem hzi)
            simp only [Lit.wf, IntKind.min, IntKind.max, IntKind.signed, IntKind.bits] at hwz
            simp at hwz
            simp only [Option.map_some, Option.some.injEq, bv, Value.int.injEq, true_and, List.getD_eq_getElem?_getD, List.getElem?_eq_getElem hzi, Option.getD_some]
            simp; omega
          · rw [if_neg hi, List.getElem?_eq_none (by simp; omega)]; rfl
        rw [this]
        refine LRel.same fun v hv => ?_
        obtain ⟨x, _, rfl⟩ := List.mem_map.1 hv
        exact crel_int _ _
      obtain ⟨μ', h1, h2, h3, h4⟩ := lay_row hL hnc hc hn (hf x rfl) hvs e
      exact ⟨μ', _, _, (zs.take n).map fun z => UInt8.ofNat z.toNat, h1, h2, Up.push _ _, h3, by unfold By; rw [hl]; exact h4, hl⟩
  · have hn0 : n = 0 := by omega
    subst hn0
    obtain ⟨a', h1, h2⟩ := sl_empty (P := P) (μ := μ) (sh := w.shape?) a c hc ha
    exact ⟨μ, M, .slice a' 0 2, [], hL, .refl _, Ch.refl _ _, VRel.of_B h2, ⟨by simp, a', 2, rfl, h1, fun h => by simp at h⟩, rfl⟩

/-- Rows of bytes. -/
theorem lay_rows {P : Program} {w : World} (A : Nat → Option Addr) (L C : Nat → Nat) (Z : Nat → List Int) (e : TypeId) : ∀ (n : Nat) {μ : Map} {M : Store} (hL : Lay P w μ M)
    (hr : ∀ r, r < n → L r ≤ C r ∧ C r ≤ maxLen ∧ (Z r).length = C r ∧ (∀ z ∈ Z r, (Lit.int .u8 z).wf = true) ∧ (A r = none → C r = 0) ∧ ∀ a', A r = some a' → ∀ c, c < C r → w.cell? (a'.add c) = some (.int .u8 ((Z r).getD c 0))),
    ∃ μ' M' vs ll, Lay P w μ' M' ∧ MLe μ μ' ∧ Up M M' ∧ LRel (CRel P μ' w.shape?) ((List.range n).map fun r => Value.slice (A r) (L r) (C r)) vs ∧ Each (By e M') vs ll ∧ ll.map List.length = (List.range n).map L
  | 0, μ, M, hL, _ => ⟨μ, M, [], [], hL, .refl _, Ch.refl _ _, LRel.nil _, trivial, rfl⟩
  | n + 1, μ, M, hL, hr => by
    obtain ⟨μ1, M1, vs, ll, h1, h2, h3, h4, h5, h6⟩ := lay_rows A L C Z e n hL fun r hr' => hr r (by omega)
    obtain ⟨q1, q2, q3, q4, q5, q6⟩ := hr n (by omega)
    obtain ⟨μ2, M2, v, l, g1, g2, g3, g4, g5, g6⟩ := lay_bytes h1 q1 q2 q5 (zs := Z n) (by omega) (fun x hx i hi => q6 x hx i (by omega)) q4 e
    have gC : CRel P μ2 w.shape? (.slice (A n) (L n) (C n)) v := by
      obtain ⟨a', c', rfl⟩ := g5.slice
      exact g4
    refine ⟨μ2, M2, vs ++ [v], ll ++ [l], g1, h2.trans g2, h3.trans g3, ?_, (h5.mono fun v x h => h.up g3).append ⟨g5, trivial⟩, ?_⟩
    · rw [List.range_succ, List.map_append]
      exact (h4.mono fun _ _ h => CRel.mono g2 (.refl _) h).append (LRel.cons gC (LRel.nil _))
    · rw [List.map_append, h6, List.range_succ, List.map_append, List.map_singleton, g6]; rfl

theorem lay_rows' {P : Program} {w : World} {μ : Map} {M : Store} (hL : Lay P w μ M) {a : Addr} {n c : Nat} (hnc : n ≤ c) (hc : c ≤ maxLen) (A : Nat → Option Addr) (L C : Nat → Nat) (Z : Nat → List Int) (e ee : TypeId)
    (hr : ∀ r, r < n → w.cell? (a.add r) = some (.slice (A r) (L r) (C r)) ∧ L r ≤ C r ∧ C r ≤ maxLen ∧ (Z r).length = C r ∧ (∀ z ∈ Z r, (Lit.int .u8 z).wf = true) ∧ (A r = none → C r = 0) ∧ ∀ a', A r = some a' → ∀ c, c < C r → w.cell? (a'.add c) = some (.int .u8 ((Z r).getD c 0))) :
    ∃ μ' M' v ll, Lay P w μ' M' ∧ MLe μ μ' ∧ Up M M' ∧ VRel P μ' w.shape? (.slice (some a) n c) v ∧ Ls (By e) ee M' v ll ∧ ll.map List.length = (List.range n).map L := by
  obtain ⟨μ1, M1, vs, ll, h1, h2, h3, h4, h5, h6⟩ := lay_rows A L C Z e n hL fun r h => (hr r h).2
  have hll : ll.length = n := by have := congrArg List.length h6; simpa using this
  by_cases hn : 0 < n
  · obtain ⟨μ2, g1, g2, g3, g4⟩ := lay_row h1 hnc hc hn (f := fun r => Value.slice (A r) (L r) (C r)) (fun i hi => (hr i hi).1) h4 ee
    exact ⟨μ2, _, _, ll, g1, h2.trans g2, h3.push' _, g3, ⟨vs, by rw [hll]; exact g4, h5.mono fun v x h => h.up (Up.push _ _)⟩, h6⟩
  · have hn0 : n = 0 := by omega
    subst hn0
    have hl0 : ll = [] := List.length_eq_zero_iff.1 hll
    subst hl0
    obtain ⟨a', g1, g2⟩ := sl_empty (P := P) (μ := μ1) (sh := w.shape?) (some a) c hc (fun h => by cases h)
    exact ⟨μ1, M1, .slice a' 0 2, [], h1, h2, h3, VRel.of_B g2, ⟨[], ⟨by simp, a', 2, rfl, g1, fun h => by simp at h⟩, trivial⟩, h6⟩

end Go.Ab
