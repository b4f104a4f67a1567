/- What is made is opened; what is turned at one place is not. -/
import Derived.Test.YtpacolplhcfamaaPU3
namespace Go.G
open Go.Ab Go.Proofs Go.RowKit
set_option linter.unusedVariables false
set_option linter.unusedSimpArgs false
set_option maxRecDepth 100000

theorem numOf_inj {l k : List UInt8} (hl : l.length = k.length) (h : numOf l = numOf k) : l = k := by
  have : ∀ (l k : List UInt8) (n m : Nat), l.length = k.length → l.foldl (fun n c => n * 256 + c.toNat) n = k.foldl (fun n c => n * 256 + c.toNat) m → n = m ∧ l = k := by
    intro l
    induction l with
    | nil => intro k n m hl h; cases k with
      | nil => exact ⟨h, rfl⟩
      | cons => cases hl
    | cons c l ih => intro k n m hl h; cases k with
      | nil => cases hl
      | cons d k =>
        obtain ⟨h1, rfl⟩ := ih k _ _ (by simpa using hl) h
        have h1 : n * 256 + c.toNat = m * 256 + d.toNat := h1
        have h2 := c.toNat_lt
        have h3 := d.toNat_lt
        have : c.toNat = d.toNat := by omega
        exact ⟨by omega, by rw [UInt8.toNat_inj.1 this]⟩
  exact (this l k 0 0 hl h).2

theorem crcBit_top (c : BitVec 32) : (crcBit c).getLsbD 31 = c.getLsbD 0 := by
  have h1 : (c &&& 1#32 = 1#32) ↔ c.getLsbD 0 = true := by
    constructor
    · intro h
      have := congrArg (fun x => BitVec.getLsbD x 0) h
      simpa using this
    · intro h
      apply BitVec.eq_of_getLsbD_eq
      intro i hi
      cases i with
      | zero => simpa using h
      | succ i => simp
  have h2 : (3988292384#32).getLsbD 31 = true := by decide
  unfold crcBit
  split
  · rename_i h
    rw [BitVec.getLsbD_xor, h2, h1.1 h]; simp
  · rename_i h
    have : c.getLsbD 0 = false := by
      cases hc : c.getLsbD 0
      · rfl
      · exact absurd (h1.2 hc) h
    rw [this]; simp
theorem crcBit_low (c : BitVec 32) : crcBit c = (if c.getLsbD 0 = true then (c >>> 1) ^^^ 3988292384#32 else c >>> 1) := by
  have h1 : (c &&& 1#32 = 1#32) ↔ c.getLsbD 0 = true := by
    constructor
    · intro h
      have := congrArg (fun x => BitVec.getLsbD x 0) h
      simpa using this
    · intro h
      apply BitVec.eq_of_getLsbD_eq
      intro i hi
      cases i with
      | zero => simpa using h
      | succ i => simp
  unfold crcBit
  simp only [h1]
theorem crcBit_inj {c d : BitVec 32} (h : crcBit c = crcBit d) : c = d := by
  have h0 : c.getLsbD 0 = d.getLsbD 0 := by rw [← crcBit_top, ← crcBit_top, h]
  rw [crcBit_low, crcBit_low, h0] at h
  have hs : c >>> 1 = d >>> 1 := by
    split at h
    · have := congrArg (fun x => x ^^^ 3988292384#32) h
      simpa [BitVec.xor_assoc] using this
    · exact h
  apply BitVec.eq_of_getLsbD_eq
  intro i hi
  cases i with
  | zero => exact h0
  | succ i =>
    have := congrArg (fun x => BitVec.getLsbD x i) hs
    simpa [Nat.add_comm] using this
theorem crcBits_inj : ∀ (k : Nat) {c d : BitVec 32}, crcBits k c = crcBits k d → c = d
  | 0, _, _, h => h
  | k + 1, _, _, h => crcBit_inj (crcBits_inj k h)
theorem crcByte_inj {c d : BitVec 32} {x y : UInt8} (h : crcByte c x = crcByte d y) : c ^^^ x.toBitVec.setWidth 32 = d ^^^ y.toBitVec.setWidth 32 := crcBits_inj 8 h
theorem xor_cancel {a b c : BitVec 32} (h : a ^^^ c = b ^^^ c) : a = b := by
  have := congrArg (fun x => x ^^^ c) h
  simpa [BitVec.xor_assoc] using this
theorem xor_cancel' {a b c : BitVec 32} (h : c ^^^ a = c ^^^ b) : a = b := by
  rw [BitVec.xor_comm c a, BitVec.xor_comm c b] at h; exact xor_cancel h
theorem crcL_inj {c d : BitVec 32} : ∀ (l : List UInt8), crcL c l = crcL d l → c = d := by
  intro l
  induction l generalizing c d with
  | nil => intro h; exact h
  | cons x l ih => intro h; exact xor_cancel (crcByte_inj (ih h))
theorem crc_one {p q : List UInt8} {x y : UInt8} (h : crc (p ++ x :: q) = crc (p ++ y :: q)) : x = y := by
  have h := xor_cancel h
  simp only [crcL, List.foldl_append, List.foldl_cons] at h
  have h := crcByte_inj (crcL_inj q h)
  have h := xor_cancel' h
  have h2 := congrArg (fun z : BitVec 32 => z.toNat) h
  simp only [BitVec.toNat_setWidth] at h2
  have h3 := x.toNat_lt
  have h4 := y.toNat_lt
  have e1 : x.toBitVec.toNat = x.toNat := rfl
  have e2 : y.toBitVec.toNat = y.toNat := rfl
  apply UInt8.toNat_inj.1
  omega
theorem sum4_inj {c d : BitVec 32} (h : sum4 c = sum4 d) : c = d := by
  simp only [sum4, List.cons.injEq, and_true] at h
  obtain ⟨h1, h2, h3, h4⟩ := h
  have g : ∀ k (a b : BitVec 32), UInt8.ofNat (a >>> k).toNat = UInt8.ofNat (b >>> k).toNat → (a.toNat / 2 ^ k) % 256 = (b.toNat / 2 ^ k) % 256 := by
    intro k a b h
    have := congrArg UInt8.toNat h
    simpa [BitVec.toNat_ushiftRight, Nat.shiftRight_eq_div_pow] using this
  have g0 := congrArg UInt8.toNat h4
  simp only [UInt8.toNat_ofNat'] at g0
  have g1 := g 24 c d h1
  have g2 := g 16 c d h2
  have g3 := g 8 c d h3
  have l1 := c.isLt
  have l2 := d.isLt
  apply BitVec.eq_of_toNat_eq
  omega

/-- A frame at one place of which another byte stands is no whole frame. -/
theorem whole_set {x : List UInt8} {i : Nat} {y : UInt8} (hi : i < (frm x).length) (hy : y ≠ (frm x)[i]) : wholeF ((frm x).set i y) = none := by
  cases hw : wholeF ((frm x).set i y) with
  | none => rfl
  | some x' =>
    exfalso
    have hlen := wholeF_len hw
    have hone : oneF ((frm x).set i y) = some x' := by
      have hs : scanF ((frm x).set i y) = [x'] := by
        unfold wholeF at hw
        split at hw
        · split at hw
          · rename_i h1 _; injection hw with hw; subst hw; exact h1
          · cases hw
        · cases hw
      rw [scanF_eq] at hs
      cases ho : oneF ((frm x).set i y) with
      | none => rw [ho] at hs; cases hs
      | some z => rw [ho] at hs; simp only [List.cons.injEq] at hs; rw [hs.1]
    simp only [List.length_set, frm_length] at hlen
    have hxl : x'.length = x.length := by omega
    simp only [oneF] at hone
    obtain ⟨p, h1, h2⟩ := Option.bind_eq_some_iff.1 hone
    obtain ⟨z, r⟩ := p
    simp only at h2
    split at h2
    · cases h2
    split at h2
    · rename_i hr4 hsum
      injection h2 with h2; subst h2
      obtain ⟨g1, g2, g3, g4, g5⟩ := rdBytes_iff.1 h1
      have hz : z.length = numOf (((frm x).set i y).take 6) := by rw [g4, List.length_take, List.length_drop]; omega
      have hD : frm x = (be 6 x.length ++ x) ++ sum4 (crc (be 6 x.length ++ x)) := rfl
      have hDl : (be 6 x.length ++ x).length = 6 + x.length := by simp [be_length]
      rw [← hz] at g5
      rw [g5, hxl] at hsum
      rcases Nat.lt_or_ge i (6 + x.length) with h6 | h6
      · rcases Nat.lt_or_ge i 6 with h7 | h7
        · -- in the length
          have e1 : (frm x).take 6 = be 6 x.length := by rw [hD, List.append_assoc, List.take_left' (be_length _ _)]
          have e2 : ((frm x).set i y).take 6 = (be 6 x.length).set i y := by rw [List.take_set, e1]
          have hx2 : x.length < 256 ^ 6 := by
            rw [← hxl, hz]
            have := numOf_lt (((frm x).set i y).take 6)
            refine Nat.lt_of_lt_of_le this (Nat.pow_le_pow_right (by omega) (by simp; omega))
          have e3 : numOf ((be 6 x.length).set i y) = numOf (be 6 x.length) := by
            rw [← e2, ← hz, numOf_be _ _ hx2, hxl]
          have e4 := numOf_inj (by simp) e3
          have e5 : (be 6 x.length)[i]'(by rw [be_length]; omega) = y := by
            have : ((be 6 x.length).set i y)[i]'(by simp [be_length]; omega) = y := by simp
            rw [← this]; congr 1; exact e4.symm
          apply hy
          rw [← e5]
          have hi1 : i < (be 6 x.length).length := by rw [be_length]; omega
          have hi2 : i < (be 6 x.length ++ x).length := by omega
          exact (List.getElem_append_left hi1).symm.trans (List.getElem_append_left hi2).symm
        · -- in what is held
          have e1 : ((frm x).set i y).take (6 + x.length) = (be 6 x.length ++ x).set i y := by rw [List.take_set, hD, List.take_left' hDl]
          have e2 : ((frm x).set i y).drop (6 + x.length) = sum4 (crc (be 6 x.length ++ x)) := by
            rw [List.drop_set_of_lt (by omega), hD, List.drop_left' hDl]
          rw [e1, e2, List.take_of_length_le (by simp [sum4])] at hsum
          have e3 := sum4_inj hsum
          have hi' : i < (be 6 x.length ++ x).length := by omega
          have e4 : (be 6 x.length ++ x) = (be 6 x.length ++ x).take i ++ (be 6 x.length ++ x)[i] :: (be 6 x.length ++ x).drop (i + 1) := by
            rw [List.getElem_cons_drop]; exact (List.take_append_drop _ _).symm
          rw [List.set_eq_take_append_cons_drop, if_pos hi'] at e3
          have e5 := crc_one (e3.trans (congrArg crc e4))
          apply hy
          rw [e5]
          exact (List.getElem_append_left hi').symm
      · -- in the sum
        have e1 : ((frm x).set i y).take (6 + x.length) = be 6 x.length ++ x := by
          rw [List.take_set_of_le (by omega), hD, List.take_left' hDl]
        have e2 : ((frm x).set i y).drop (6 + x.length) = (sum4 (crc (be 6 x.length ++ x))).set (i - (6 + x.length)) y := by
          rw [List.drop_set, if_neg (by omega), hD, List.drop_left' hDl]
        rw [e1, e2, List.take_of_length_le (by simp [sum4])] at hsum
        have hs4 : (sum4 (crc (be 6 x.length ++ x))).length = 4 := rfl
        have hi2 : i - (6 + x.length) < (sum4 (crc (be 6 x.length ++ x))).length := by rw [frm_length] at hi; rw [hs4]; omega
        have e5 : (sum4 (crc (be 6 x.length ++ x)))[i - (6 + x.length)] = y := by
          have : ((sum4 (crc (be 6 x.length ++ x))).set (i - (6 + x.length)) y)[i - (6 + x.length)]'(by rw [List.length_set]; exact hi2) = y := by simp
          rw [← this]; congr 1
        apply hy
        rw [← e5]
        simp only [frm]
        rw [List.getElem_append_right (by omega)]
        congr 1; omega
    · cases h2

theorem whole_frm (x : List UInt8) (h : x.length ≤ 10000) : wholeF (frm x) = some x := by
  have := scanF_frm x [] h
  rw [List.append_nil, scanF_short [] (by simp)] at this
  unfold wholeF
  rw [this]; simp only
  rw [if_pos (frm_length x).symm]
theorem whole_more (x : List UInt8) (h : x.length ≤ 10000) (c : UInt8) : wholeF (frm x ++ [c]) = none := by
  have := scanF_frm x [c] h
  rw [scanF_short [c] (by simp)] at this
  unfold wholeF
  rw [this]; simp only
  rw [if_neg (by rw [List.length_append, frm_length]; simp)]
theorem whole_take (x : List UInt8) (h : x.length ≤ 10000) (k : Nat) (hk : k < (frm x).length) : wholeF ((frm x).take k) = none := by
  cases hw : wholeF ((frm x).take k) with
  | none => rfl
  | some x' =>
    exfalso
    have hlen := wholeF_len hw
    have hone : oneF ((frm x).take k) = some x' := by
      have hs : scanF ((frm x).take k) = [x'] := by
        unfold wholeF at hw
        split at hw
        · split at hw
          · rename_i h1 _; injection hw with hw; subst hw; exact h1
          · cases hw
        · cases hw
      rw [scanF_eq] at hs
      cases ho : oneF ((frm x).take k) with
      | none => rw [ho] at hs; cases hs
      | some z => rw [ho] at hs; simp only [List.cons.injEq] at hs; rw [hs.1]
    simp only [oneF] at hone
    obtain ⟨p, h1, h2⟩ := Option.bind_eq_some_iff.1 hone
    obtain ⟨z, r⟩ := p
    simp only at h2
    split at h2
    · cases h2
    split at h2
    · injection h2 with h2; subst h2
      obtain ⟨g1, g2, g3, g4, g5⟩ := rdBytes_iff.1 h1
      have hz : z.length = numOf (((frm x).take k).take 6) := by rw [g4, List.length_take, List.length_drop]; omega
      have hk6 : 6 ≤ k := by simp only [List.length_take] at g1; omega
      have e1 : ((frm x).take k).take 6 = be 6 x.length := by
        rw [List.take_take, Nat.min_eq_left hk6]
        have hD : frm x = be 6 x.length ++ (x ++ sum4 (crc (be 6 x.length ++ x))) := by simp [frm]
        rw [hD, List.take_left' (be_length _ _)]
      rw [e1, numOf_be _ _ (by omega)] at hz
      simp only [List.length_take] at hlen
      rw [frm_length] at hk
      omega
    · cases h2

theorem openF_make (x y : List UInt8) (hx : x.length ≤ 4000) (hy : y.length ≤ 256) : openF (makeF x y) = some (x, y) := by
  have h1 : (be 6 x.length ++ x ++ be 6 y.length ++ y).length ≤ 10000 := by simp [be_length]; omega
  rw [openF, makeF, whole_frm _ h1, Option.bind_some]
  have g : ∀ (top : Nat) (z r : List UInt8), z.length ≤ top → z.length < 256 ^ 6 → rdBytes top (be 6 z.length ++ z ++ r) false = some (z, r) := by
    intro top z r ht hz
    rw [rdBytes_iff]
    have e1 : (be 6 z.length ++ z ++ r).take 6 = be 6 z.length := by rw [List.append_assoc, List.take_left' (be_length _ _)]
    have e2 : (be 6 z.length ++ z ++ r).drop 6 = z ++ r := by rw [List.append_assoc, List.drop_left' (be_length _ _)]
    rw [e1, numOf_be _ _ hz, ← List.drop_drop, e2]
    refine ⟨by simp [be_length], ht, by simp [be_length], (List.take_left' rfl).symm, (List.drop_left' rfl).symm⟩
  have e1 : be 6 x.length ++ x ++ be 6 y.length ++ y = be 6 x.length ++ x ++ (be 6 y.length ++ y) := by simp
  rw [e1, g 4000 x _ hx (by omega), Option.bind_some]
  have e2 := g 256 y [] hy (by omega)
  rw [List.append_nil] at e2
  simp only [e2, Option.bind_some]
  rfl
theorem openF_none {l : List UInt8} (h : wholeF l = none) : openF l = none := by rw [openF, h]; rfl
theorem makeF_inj {x y x' y' : List UInt8} (h1 : x.length ≤ 4000) (h2 : y.length ≤ 256) (h3 : x'.length ≤ 4000) (h4 : y'.length ≤ 256) : makeF x y = makeF x' y' ↔ x = x' ∧ y = y' := by
  constructor
  · intro h
    have e := openF_make x y h1 h2
    rw [h, openF_make x' y' h3 h4] at e
    injection e with e
    injection e with e1 e2
    exact ⟨e1.symm, e2.symm⟩
  · rintro ⟨rfl, rfl⟩; rfl

theorem make_take (x y : List UInt8) (h : x.length + y.length ≤ 9000) (k : Nat) (hk : k < (makeF x y).length) : openF ((makeF x y).take k) = none :=
  openF_none (whole_take _ (by simp [be_length]; omega) k hk)
theorem make_set {x y : List UInt8} {i : Nat} {c : UInt8} (hi : i < (makeF x y).length) (hc : c ≠ (makeF x y)[i]) : openF ((makeF x y).set i c) = none :=
  openF_none (whole_set hi hc)
theorem make_more (x y : List UInt8) (h : x.length + y.length ≤ 9000) (c : UInt8) : openF (makeF x y ++ [c]) = none :=
  openF_none (whole_more _ (by simp [be_length]; omega) c)

end Go.G
