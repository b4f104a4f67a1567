/- Layer 15: a file of the statements is written. -/
import Derived.Test.YtpacolplhcfamaaPY15e
import Derived.Test.YtpacolplhcfamaaPGFw
namespace Go.G
open Go.Ab Go.Proofs Go.RowKit
set_option linter.unusedVariables false
set_option linter.unusedSimpArgs false
set_option maxRecDepth 100000

theorem cvId_o {M0 M : Store} (hu : Up M0 M) {v : Value} {l : List UInt8} (h : N M0 M v l) (hl : l ≠ []) {K : Value → Store → Prop} (hK : ∀ M', Up M0 M' → N M0 M' v l → Keep Ty.uint8 M M' → (∃ b, M0.n ≤ b ∧ Ch [b] M M') → K v M') : OP2 (cvId v M) K := by
  obtain ⟨h1, ⟨h2, _⟩ | ⟨b, cells, c, rfl, h2, h3, h4, h5, h6⟩⟩ := h
  · exact absurd (List.length_eq_zero_iff.1 h2) hl
  · have hob : Ob M b cells Ty.uint8 := h3
    have e : cvId (.slice (some ⟨b, 0, none⟩) l.length c) M = some (.slice (some ⟨b, 0, none⟩) l.length c, M.set b (some (.inl (cells, Ty.uint8, true)))) := by
      simp only [cvId, h3]
      rw [if_pos (List.length_pos_iff.2 hl)]
    rw [e, OP2_some]
    have cc := Ch.setO hob (some (.inl (cells, Ty.uint8, true)))
    refine hK _ (hu.ch cc (by simpa using h2)) ⟨h1, .inr ⟨b, cells, c, rfl, h2, hob.setSt _, h4, h5, h6⟩⟩ (cc.keepT hob) ⟨b, h2, cc⟩
theorem FSR.leU {M0 M : Store} {bf r room U U' last : Nat} {fl : Fl} (h : FSR M0 M bf r room U last fl) (k : U ≤ U') : FSR M0 M bf r room U' last fl := by
  obtain ⟨used, h1, h2, h3⟩ := h.ob
  exact ⟨h.b0, h.r0, ⟨used, h1, h2, by omega⟩, h.mp, h.sz⟩
def wb (n : Nat) : UInt8 := u8N (48 + (n : Int))
/-- What a file has of a number. -/
def wrC (s : List UInt8) (n : Nat) : List UInt8 := if madeP s = true then makeF [112] [wb n] else [wb n]
theorem wrC_len (s : List UInt8) (n : Nat) : (wrC s n).length ≤ 24 := by
  unfold wrC
  split
  · rw [makeF_length]; simp
  · simp
section
variable {M0 M : Store} {bf r room U last : Nat} {fl : Fl}
theorem write_law (hu : Up M0 M) (h : FSR M0 M bf r room U last fl) {s : List UInt8} (hs : nameOk s) {n : Nat} (hn : n ≤ 100) (hU : U + 24 ≤ room) (hroom : room ≤ 2 ^ 30) (hlast : last ≤ 2 ^ 20) :
    R F.fettlelaw15_write #[pB bf, sv s, nv n] M fun v M' => Up M0 M' ∧ (∃ M1, Up M M1 ∧ Ch [bf, r] M1 M') ∧ FSR M0 M' bf r room (U + 24) (last + 1) (putF fl s (wrC s n) (last + 1)) := by
  refine R.cps fun Q hQ => ?_
  apply T_fettlelaw15_write
  unfold S_fettlelaw15_write
  show OP (binI .add (.int .i64 48) (.int .i64 (n : Int))) _
  rw [e_add, w64 (by omega) (by omega)]
  rw [cv_u8N, bl_bv]
  refine s_lit (s := 1) (n := 1) rfl fun M1 u1 hN1 o1 n1 => ?_
  have hN1 : N M M1 (.slice (some ⟨M.n, 0, none⟩) 1 1) [wb n] := hN1
  refine made_run s M1 ?_
  rw [BR_bool]
  have hl := wrC_len s n
  have hQ2 : ∀ (v : Value) {M1 M' : Store}, Up M M1 → ∀ b : List UInt8, b = wrC s n → Up M0 M' → (∃ M2, Up M1 M2 ∧ Ch [bf, r] M2 M') → FSR M0 M' bf r room (U + b.length) (last + 1) (putF fl s b (last + 1)) → Q v M' := fun v M1 M' u1 b hb u2 ⟨M2, u3, c⟩ h2 => by
    subst hb
    exact hQ _ _ ⟨u2, ⟨M2, u1.trans u3, c⟩, h2.leU (by omega)⟩
  split
  · rename_i hm
    have hm : madeP s = true := hm
    have e : wrC s n = makeF [112] [wb n] := by unfold wrC; rw [if_pos hm]
    have e112 : ∀ K : List Value → Prop, OP (bldL (.int .u8 0) 1 1 [(0, (.int .u8 112))]) K = K [bv 112] := fun K => bl_bv 112 K
    rw [e112]
    refine s_lit (s := 1) (n := 1) rfl fun M2 u2 hN2 o2 n2 => ?_
    have hN2 : N M1 M2 (.slice (some ⟨M1.n, 0, none⟩) 1 1) [112] := hN2
    refine cvId_o (M0 := M1) u2 hN2 (by simp) fun M3 u3 hN3 _ _ => ?_
    refine (RMake_ok hN3.by (Sl.up hN1.by u3) (by simp) (by simp)).mono fun v M4 ⟨u4, hN4⟩ => ?_
    have u04 : Up M M4 := (u1.trans u3).trans u4
    rw [e] at hl
    refine (Put_ok (hu.trans u04) (h.up u04) hs hN4.by (by omega) (by omega) hroom hlast).mono fun v M5 ⟨u5, hc, _, h5⟩ => ?_
    exact ⟨rfl, hQ2 _ u04 _ e.symm u5 hc h5⟩
  · rename_i hm
    have hm : madeP s = false := by simpa using hm
    have e : wrC s n = [wb n] := by unfold wrC; rw [if_neg (by rw [hm]; decide)]
    rw [e] at hl
    refine (Put_ok (hu.trans u1) (h.up u1) hs hN1.by (by omega) (by simp at hl ⊢; omega) hroom hlast).mono fun v M5 ⟨u5, hc, _, h5⟩ => ?_
    exact ⟨rfl, hQ2 _ u1 _ e.symm u5 hc h5⟩
end
end Go.G
