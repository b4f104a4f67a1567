/- The abstract machine's memory operations are the model's: conversions, lengths, maps. -/
import Derived.Test.YtmdbdbjaipcgeaaAbMem3
import Derived.Lib.ConvBytes
import Derived.Laws.BytesArg
set_option linter.unusedVariables false
set_option linter.unusedSimpArgs false
namespace Go.Ab
open Go.RowKit

theorem newB_bytes (w : World) (e : TypeId) (s : ByteArray) : NewB w (Lib.bytesWorld w e s) (.cells (Lib.bytesCells w e s) e ((Lib.bytesCells w e s).size, (Lib.bytesCells w e s).size + 1)) := by
  refine ⟨?_, ?_, ?_, ?_⟩
  · apply Array.ext_getElem?
    intro i
    rcases Nat.lt_trichotomy i w.heap.size with h | h | h
    · rw [Lib.bytesWorld_at_old w e s i h, Array.getElem?_push, if_neg (by omega)]
    · subst h; rw [Lib.bytesWorld_at_new w e s]; simp
    · rw [Array.getElem?_eq_none (by rw [Lib.bytesWorld_size]; omega), Array.getElem?_eq_none (by simp; omega)]
  all_goals (unfold Lib.bytesWorld World.freeze; split <;> rfl)

theorem bytesOfCells_spec : ∀ (cs : List Value) (l : List UInt8), bytesOfCells cs = some l → ∃ xs : List Int, cs = xs.map (Value.int .u8) ∧ l = xs.map fun n => UInt8.ofNat n.toNat
  | [], l, h => by simp [bytesOfCells] at h; subst h; exact ⟨[], rfl, rfl⟩
  | v :: cs, l, h => by
    unfold bytesOfCells at h
    split at h
    · rename_i e; cases e
    · rename_i n r e
      injection e with e1 e2; subst e1; subst e2
      obtain ⟨q, hq, h⟩ := Option.bind_eq_some_iff.1 h
      injection h with h; subst h
      obtain ⟨xs, rfl, rfl⟩ := bytesOfCells_spec _ q hq
      exact ⟨n :: xs, rfl, rfl⟩
    · cases h

theorem LRel.ints {P : Program} {μ : Map} {sh : Shp} {us : List Value} {k : IntKind} {xs : List Int} (h : LRel (CRel P μ sh) us (xs.map (Value.int k))) : us = xs.map (Value.int k) := by
  apply List.ext_getElem?
  intro i
  cases hv : (xs.map (Value.int k))[i]? with
  | none =>
    rw [List.getElem?_eq_none_iff] at hv ⊢
    rw [h.1]; exact hv
  | some v =>
    obtain ⟨u, hu, hr⟩ := h.get hv
    rw [hu]
    simp only [List.getElem?_map, Option.map_eq_some_iff] at hv
    obtain ⟨n, _, rfl⟩ := hv
    rw [VRel.int (.of_D (.of_C hr))]

theorem aconvert_run {P : Program} {μ : Map} {M M' : Store} {w : World} (hR : Rel P μ M w) {src dst : TypeId} {x cx r : Value} (h : aconvert P src dst x M = some (r, M')) (hx : VRel P μ w.shape? cx x) :
    ∃ cr w', (convert src dst cx).run P w = .ok cr w' ∧ Made P μ M w r M' cr w' := by
  unfold aconvert at h
  split at h
  · rename_i k0 k j n hs hd
    obtain rfl := hx.int
    injection h with h; injection h with h h'; subst h; subst h'
    exact ⟨_, w, by simp [convert, run_underlying' hs, run_underlying' hd, Conv.intToInt], μ, hR, .refl _ _ _, VRel.mkInt _ _⟩
  · rename_i s hs hd
    obtain rfl := hx.string
    injection h with h; injection h with h h'; subst h; subst h'
    exact ⟨_, w, by simp [convert, run_underlying' hs, run_underlying' hd], μ, hR, .refl _ _ _, VRel.mkString _⟩
  · rename_i e s hs hd
    obtain rfl := hx.string
    split at h
    · rename_i he
      split at h
      · cases h
      rename_i hq
      simp only [Bool.or_eq_true, decide_eq_true_eq, bne_iff_ne, ne_eq, not_or, Nat.not_lt, Decidable.not_not] at hq
      obtain ⟨hle, hsz⟩ := hq
      injection h with h; injection h with h h'; subst h; subst h'
      have hN := newB_bytes w e s
      have hK : s.size ≤ grownCap w s.size 0 e ∧ grownCap w s.size 0 e ≤ maxLen := by
        unfold grownCap
        simp only [Question.cut]
        have := Nat.mod_lt (w.tape w.drawn (.appendCap s.size 0 e)) (show 0 < 2 ^ 63 - s.size by omega)
        simp only [maxLen]
        omega
      have hdata : s.data.size = s.size := rfl
      have hcc : (Lib.bytesCells w e s).size = grownCap w s.size 0 e := by
        simp [Lib.bytesCells, hdata]; omega
      obtain ⟨h1, h2⟩ := rel_newCells hR hN (s.data.toList.map fun b => Value.int .u8 b.toNat) (by
        have e1 : (Lib.bytesCells w e s).toList.take (s.data.toList.map fun b => Value.int .u8 b.toNat).length = s.data.toList.map fun b => Value.int .u8 b.toNat := by
          unfold Lib.bytesCells
          rw [Array.toList_append, Array.toList_map, List.take_left]
        rw [e1]
        exact LRel.plain fun v hv => by simp only [List.mem_map] at hv; obtain ⟨b, _, rfl⟩ := hv; rfl) (.inr (Nat.le_refl _))
      exact ⟨.slice (some ⟨w.heap.size, 0, none⟩) s.size (grownCap w s.size 0 e), _, Lib.run_convert_string_bytes w src dst e s hs hd he, _, h1, h2, slice_new hN hsz hK.1 hK.2 (by omega) (by omega)⟩
    · cases h
  · rename_i e e2 b o n cap hs hd
    obtain ⟨ac, c', rfl, hsl⟩ := hx.slice
    split at h
    · rename_i cs t he hg
      split at h
      · rename_i hq
        obtain ⟨rfl, hn⟩ := hq
        obtain rfl : e = e2 := by rw [hs] at hd; injection hd with hd; injection hd
        injection h with h; injection h with h h'; subst h; subst h'
        obtain ⟨y, rfl, ⟨_, loc, hloc, rfl⟩, _⟩ := hsl.addr (.inl hn) _ rfl
        obtain ⟨ho, ho0, cc, fr, hb, hcl, hrel, hfr⟩ := own_block hR hloc hg
        have hsh : w.shape? loc.b = some (t, cc.size) := by simp [World.shape?, hb]
        have hlt := (Array.getElem?_eq_some_iff.1 hb).1
        obtain ⟨fr', hf, hfr'⟩ : ∃ fr', (w.freeze ⟨loc.b, cc.size, none⟩ 1).heap[loc.b]? = some (.cells cc t fr') ∧ FrOk cc.size fr' := by
          have hv := (Array.getElem?_eq_some_iff.1 hb).2
          refine ⟨if fr.1 == fr.2 then (cc.size, cc.size + 1) else (min fr.1 cc.size, max fr.2 (cc.size + 1)), ?_, ?_⟩
          · simp [World.freeze, hlt]
            rw [Array.getElem_modify_self, hv]
          · by_cases hq : fr.1 = fr.2
            · simp [FrOk, hq]
            · rcases hfr with h | h
              · exact absurd h hq
              · simp [FrOk, hq]; omega
        have hw : WroteB w (w.freeze ⟨loc.b, cc.size, none⟩ 1) loc.b := by
          refine ⟨fun k hk => ?_, by simp [World.freeze], ?_, rfl, rfl, rfl⟩
          · simp [World.freeze, Array.getElem?_modify, Ne.symm hk]
          · rw [hsh]; simp [World.shape?, hf]
        obtain ⟨h1, h2⟩ := rel_set hR hloc hg ho hw (some (.inl (cs, t, true))) ⟨ho.symm, cc, t, fr', hf, by rw [ho0, List.drop_zero]; exact hrel.mono fun _ _ => CRel.mono (.refl _) hw.sle, fun _ => ⟨rfl, ho0, hfr'⟩⟩
        refine ⟨.slice (some ⟨loc.b, loc.o + o, none⟩) n c', _, ?_, μ, h1, h2, hx.mono (.refl _) hw.sle⟩
        simp [convert, run_underlying' hs, run_underlying' he, markStringish, hsh, Sem.run_bind, Result.andThen]
      · cases h
    · cases h
  · rename_i e a n cap hs hd
    obtain ⟨ac, c', rfl, hsl⟩ := hx.slice
    split at h
    · rename_i he
      injection h with h; injection h with h h'; subst h; subst h'
      have := hsl.some_
      cases ac <;> simp at this
      exact ⟨_, w, run_convert_bytes_nil w src e hs he _ _ dst hd, μ, hR, .refl _ _ _, VRel.mkString _⟩
    · rename_i b o he
      split at h
      · rename_i h0
        subst h0
        injection h with h; injection h with h h'; subst h; subst h'
        refine ⟨.string .empty, w, ?_, μ, hR, .refl _ _ _, VRel.mkString _⟩
        rw [run_convert_bytes_string w src dst e _ _ _ hs he hd]
        cases ac with
        | none => simp [Conv.bytesToString]
        | some a => simp [Conv.bytesToString, loadCells, loadCellsFrom]
      · rename_i h0
        obtain ⟨cs, hc, h⟩ := Option.bind_eq_some_iff.1 h
        obtain ⟨l, hl, h⟩ := Option.bind_eq_some_iff.1 h
        injection h with h; injection h with h h'; subst h; subst h'
        obtain ⟨y, rfl, ⟨_, loc, hloc, rfl⟩, _⟩ := hsl.addr (.inl (by omega)) _ rfl
        obtain ⟨us, h1, h2, h3⟩ := row_rel hR hc hloc
        obtain ⟨xs, rfl, rfl⟩ := bytesOfCells_spec _ _ hl
        obtain rfl := h1.ints
        simp only [List.length_map] at h2
        exact ⟨_, w, run_convert_bytes_arg w src e hs he loc.b (loc.o + o) n c' xs h2 (fun i hi => by
          have := h3 i (.int .u8 (xs.getD i 0)) (by simp [List.getD, List.getElem?_eq_getElem (show i < xs.length by omega)])
          exact this) dst hd, μ, hR, .refl _ _ _, VRel.mkString _⟩
    · cases h
  · cases h

end Go.Ab
