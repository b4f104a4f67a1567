/- Rows of bytes of one's own, turned. -/
import Derived.Test.YtpacolplhcfamaaPY15e
namespace Go.G
open Go.Ab Go.Proofs Go.RowKit
set_option linter.unusedVariables false
set_option linter.unusedSimpArgs false
set_option maxRecDepth 100000

/-- A byte of one's own is turned: all other bytes of one's own stay such, as many as they were. -/
theorem turnBx {M2 M : Store} {v : Value} {t : List UInt8} (hu : Up M2 M) (h : N M2 M v t) {i : Nat} (hi : i < t.length) (c : UInt8) {K : Store → Prop}
    (hK : ∀ M', Up M2 M' → (∀ v' t', N M2 M v' t' → ∃ t'', N M2 M' v' t'' ∧ t''.length = t'.length) → Keep Ty.uint8 M M' → K M') : (OP (ixA 1 v (iv (i : Int))) fun p => OP (st 1 p (bv c) M) K) := by
  obtain ⟨h1, ⟨h2, _⟩ | ⟨b, cells, cp, rfl, hb, h6, h7, h8, h9⟩⟩ := h
  · omega
  · have e : ixA 1 (.slice (some ⟨b, 0, none⟩) t.length cp) (iv (i : Int)) = some (.pointer (some ⟨b, i, none⟩)) := by
      simp only [ixA, iv]; rw [if_pos ⟨by omega, by omega, trivial⟩]; simp
    have o6 : Ob M b cells Ty.uint8 := h6
    rw [e, OP_some]
    refine s_st1 (i := i) (b := b) (cells := cells) (T := Ty.uint8) o6 (by omega) rfl rfl fun M1 c1 o1 n1 => ?_
    refine hK M1 (hu.ch c1 (by simpa using hb)) ?_ (c1.keepT o6)
    rintro v' t' ⟨g1, g | ⟨b', cells', cp', rfl, gb, g6, g7, g8, g9⟩⟩
    · exact ⟨t', ⟨g1, .inl g⟩, rfl⟩
    · by_cases hbb : b' = b
      · subst hbb
        have hc : cells' = cells := by
          have h6' := h6
          rw [g6] at h6'
          injection h6' with h6'
          injection h6' with h6'
          injection h6' with h6'
        subst hc
        refine ⟨t'.set i c, ⟨by simp, .inr ⟨b', cells'.set i (bv c), cp', ?_, gb, o1, ?_, ?_, ?_⟩⟩, by simp⟩
        · rw [List.length_set]
        · rw [List.length_set, List.length_set]; exact g7
        · rw [List.map_set, List.length_set, List.take_set, g8]
        · rw [List.length_set]; exact g9
      · exact ⟨t', ⟨g1, .inr ⟨b', cells', cp', rfl, gb, c1.at g6 (by simpa using hbb), g7, g8, g9⟩⟩, rfl⟩
/-- Rows of one's own, whatever they hold. -/
def WkO (M2 : Store) (M : Store) (v : Value) (x : List UInt8) : Prop := ∃ t, N M2 M v t ∧ t.length ≤ 2 ^ 20
theorem wkO_next {M2 M M' : Store} {v : Value} {xs : List (List UInt8)} (h : NLs (WkO M2) Ty.sl_uint8 M2 M v xs) (hw : ∀ v' t', N M2 M v' t' → ∃ t'', N M2 M' v' t'' ∧ t''.length = t'.length) (hk : Keep Ty.uint8 M M') : NLs (WkO M2) Ty.sl_uint8 M2 M' v xs := by
  obtain ⟨vs, h1, h2⟩ := h
  exact ⟨vs, Nw.keep h1 (by decide) hk, h2.mono fun v x ⟨t, ht, hl⟩ => by obtain ⟨t', h', hl'⟩ := hw v t ht; exact ⟨t', h', by omega⟩⟩
theorem bvU (c : UInt8) (K : Value → Prop) : OP (binI .add (bv c) (.int .u8 1)) K = K (bv (UInt8.ofNat (c.toNat + 1))) := by
  unfold bv
  rw [e_add]
  have : IntKind.wrap .u8 ((c.toNat : Int) + 1) = ((UInt8.ofNat (c.toNat + 1)).toNat : Int) := by
    rw [← wrap_u8]; rfl
  rw [this]
end Go.G
