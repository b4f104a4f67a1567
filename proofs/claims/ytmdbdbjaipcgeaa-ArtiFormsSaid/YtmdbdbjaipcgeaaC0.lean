/- Sums of bytes, told at once: what closed calls are run with. -/
import Derived.Test.YtmdbdbjaipcgeaaGS0
import Derived.Test.YtmdbdbjaipcgeaaC2
import Derived.Test.YtmdbdbjaipcgeaaRZ
namespace Go.G0
open Go.Ab Go.Proofs Go.RowKit Go.G
set_option linter.unusedVariables false
set_option linter.unusedSimpArgs false

theorem Sum_bits {x7 x8 x9 : Value} {M : Store} {Q : Value → Store → Prop} : ∀ (d : Nat) (c : BitVec 32), d ≤ 8 → P_crcs_Sum_4 (u32v (crcBits d c)) x7 x8 x9 M Q → P_crcs_Sum_2 (u32v c) x7 x8 x9 (.int .i64 (8 - d)) M Q := by
  intro d
  induction d with
  | zero =>
    intro c _ h
    apply T_crcs_Sum_2
    unfold S_crcs_Sum_2
    simp (disch := omega) only [ev, if_neg]
    exact h
  | succ d ih =>
    intro c hd h
    apply T_crcs_Sum_2
    unfold S_crcs_Sum_2
    have e1 : (.int .u32 1 : Value) = u32v 1#32 := rfl
    have e2 : (.int .u32 3988292384 : Value) = u32v 3988292384#32 := rfl
    have e3 := u32_shr c 1 (by omega)
    have e4 : (8 - ((d + 1 : Nat) : Int)) + 1 = 8 - (d : Int) := by omega
    have e5 : ((1 : Nat) : Int) = 1 := rfl
    rw [e5] at e3
    rw [e1, e2]
    simp (disch := omega) only [ev, if_pos, e_and, e3, u32_eql, e_xor, w64, e4]
    simp only [crcBits, crcBit] at h
    split
    · rename_i h1; rw [if_pos h1] at h; exact ih _ (by omega) h
    · rename_i h1; rw [if_neg h1] at h; exact ih _ (by omega) h

theorem Sum_loop {M : Store} {x : Value} {l : List UInt8} (hx : B M x l) (hl : l.length ≤ 2 ^ 26) {Q : Value → Store → Prop} : ∀ (d i : Nat) (c : BitVec 32), d + i = l.length → Q (u32v (crcL c (l.drop i) ^^^ 4294967295#32)) M →
    P_crcs_Sum_1 (u32v c) x (.int .i64 (l.length : Int)) (.int .i64 (i : Int)) M Q := by
  intro d
  induction d with
  | zero =>
    intro i c hi h
    apply T_crcs_Sum_1
    unfold S_crcs_Sum_1
    simp (disch := omega) only [ev, if_neg]
    apply T_crcs_Sum_3
    unfold S_crcs_Sum_3
    have e1 : (.int .u32 4294967295 : Value) = u32v 4294967295#32 := rfl
    rw [List.drop_of_length_le (by omega)] at h
    rw [e1, e_xor]
    exact ⟨rfl, h⟩
  | succ d ih =>
    intro i c hi h
    apply T_crcs_Sum_1
    unfold S_crcs_Sum_1
    obtain ⟨p, h1, h2⟩ := By.at hx (i := i) (by omega) .i64
    simp (disch := omega) only [ev, if_pos, h1, h2, cv_u32, e_xor]
    refine Sum_bits 8 _ (by omega) ?_
    apply T_crcs_Sum_4
    unfold S_crcs_Sum_4
    simp (disch := omega) only [ev, w64]
    refine ih (i + 1) _ (by omega) ?_
    rw [List.drop_eq_getElem_cons (by omega)] at h
    exact h

theorem Sum_ok {M : Store} {x : Value} {l : List UInt8} (hx : B M x l) (hl : l.length ≤ 2 ^ 26) : R F.crcs_Sum #[x] M fun v M' => M' = M ∧ v = u32v (crc l) := by
  apply T_crcs_Sum
  unfold S_crcs_Sum
  rw [hx.lenV]
  simp only [ev]
  exact Sum_loop hx hl l.length 0 4294967295#32 rfl ⟨rfl, rfl⟩

theorem RSum_bits {x0 x4 : Value} {M : Store} {Q : Value → Store → Prop} : ∀ (d : Nat) (c : BitVec 32), d ≤ 8 → P_fettleref1_Sum_4 x0 (u32v (crcBits d c)) x4 M Q → P_fettleref1_Sum_2 x0 (u32v c) x4 (.int .i64 (8 - d)) M Q := by
  intro d
  induction d with
  | zero =>
    intro c _ h
    apply T_fettleref1_Sum_2
    unfold S_fettleref1_Sum_2
    simp (disch := omega) only [ev, if_neg]
    exact h
  | succ d ih =>
    intro c hd h
    apply T_fettleref1_Sum_2
    unfold S_fettleref1_Sum_2
    have e1 : (.int .u32 1 : Value) = u32v 1#32 := rfl
    have e2 : (.int .u32 3988292384 : Value) = u32v 3988292384#32 := rfl
    have e3 := u32_shr c 1 (by omega)
    have e4 : (8 - ((d + 1 : Nat) : Int)) + 1 = 8 - (d : Int) := by omega
    have e5 : ((1 : Nat) : Int) = 1 := rfl
    rw [e5] at e3
    rw [e1, e2]
    simp (disch := omega) only [ev, if_pos, e_and, e3, u32_eql, e_xor, w64, e4]
    simp only [crcBits, crcBit] at h
    split
    · rename_i h1; rw [if_pos h1] at h; exact ih _ (by omega) h
    · rename_i h1; rw [if_neg h1] at h; exact ih _ (by omega) h

theorem RSum_loop {M : Store} {x : Value} {l : List UInt8} (hx : B M x l) (hl : l.length ≤ 2 ^ 26) {Q : Value → Store → Prop} : ∀ (d i : Nat) (c : BitVec 32), d + i = l.length → Q (u32v (crcL c (l.drop i) ^^^ 4294967295#32)) M →
    P_fettleref1_Sum_1 x (u32v c) (.int .i64 (i : Int)) M Q := by
  intro d
  induction d with
  | zero =>
    intro i c hi h
    apply T_fettleref1_Sum_1
    unfold S_fettleref1_Sum_1
    rw [hx.lenV]
    simp (disch := omega) only [ev, if_neg]
    apply T_fettleref1_Sum_3
    unfold S_fettleref1_Sum_3
    have e1 : (.int .u32 4294967295 : Value) = u32v 4294967295#32 := rfl
    rw [List.drop_of_length_le (by omega)] at h
    rw [e1, e_xor]
    exact ⟨rfl, h⟩
  | succ d ih =>
    intro i c hi h
    apply T_fettleref1_Sum_1
    unfold S_fettleref1_Sum_1
    rw [hx.lenV]
    obtain ⟨p, h1, h2⟩ := By.at hx (i := i) (by omega) .i64
    simp (disch := omega) only [ev, if_pos, h1, h2, cv_u32, e_xor]
    refine RSum_bits 8 _ (by omega) ?_
    apply T_fettleref1_Sum_4
    unfold S_fettleref1_Sum_4
    simp (disch := omega) only [ev, w64]
    refine ih (i + 1) _ (by omega) ?_
    rw [List.drop_eq_getElem_cons (by omega)] at h
    exact h

theorem RSum_ok {M : Store} {x : Value} {l : List UInt8} (hx : B M x l) (hl : l.length ≤ 2 ^ 26) : R F.fettleref1_Sum #[x] M fun v M' => M' = M ∧ v = u32v (crc l) := by
  apply T_fettleref1_Sum
  unfold S_fettleref1_Sum
  exact RSum_loop hx hl l.length 0 4294967295#32 rfl ⟨rfl, rfl⟩


theorem call_ok (k : Nat) : CallOk Try.prog (acall Try.prog Ex k) := call_okE Ex (fun f g h => by cases h) k

/-! ## a sum at once -/
def fbit (c : Nat) : Nat := bif Nat.beq (Nat.land c 1) 1 then Nat.xor (Nat.div c 2) 3988292384 else Nat.div c 2
def fbyte (c n : Nat) : Nat := fbit (fbit (fbit (fbit (fbit (fbit (fbit (fbit (Nat.xor c n))))))))
def crcV : List Value → Nat → Option Nat
  | [], c => some c
  | .int .u8 (.ofNat n) :: r, c => bif Nat.blt n 256 then (bif Nat.blt (fbyte c n) 4294967296 then crcV r (fbyte c n) else none) else none
  | _ :: _, _ => none

theorem fbit_eq (c : BitVec 32) : fbit c.toNat = (crcBit c).toNat := by
  have h1 : Nat.land c.toNat 1 = (c &&& 1#32).toNat := by rw [BitVec.toNat_and]; rfl
  have h2 : Nat.div c.toNat 2 = (c >>> 1).toNat := by rw [BitVec.toNat_ushiftRight, Nat.shiftRight_eq_div_pow]; rfl
  unfold fbit crcBit
  rw [h1, h2]
  by_cases h : c &&& 1#32 = 1#32
  · rw [if_pos h, h]
    show Nat.xor (c >>> 1).toNat 3988292384 = _
    rw [BitVec.toNat_xor]; rfl
  · rw [if_neg h]
    have : Nat.beq (c &&& 1#32).toNat 1 = false := by
      cases hb : Nat.beq (c &&& 1#32).toNat 1 with
      | false => rfl
      | true => exact absurd (BitVec.eq_of_toNat_eq (by have := Nat.eq_of_beq_eq_true hb; simpa using this)) h
    rw [this]; rfl
theorem fbyte_eq (c : BitVec 32) (x : UInt8) : fbyte c.toNat x.toNat = (crcByte c x).toNat := by
  have : Nat.xor c.toNat x.toNat = (c ^^^ x.toBitVec.setWidth 32).toNat := by
    rw [BitVec.toNat_xor, BitVec.toNat_setWidth]
    have h := x.toBitVec.isLt
    rw [Nat.mod_eq_of_lt (by omega)]; rfl
  unfold fbyte crcByte
  rw [this]
  simp only [fbit_eq, crcBits]
theorem crcV_of : ∀ (cs : List Value) (c : BitVec 32) (r : Nat), crcV cs c.toNat = some r → ∃ l : List UInt8, cs = l.map bv ∧ r = (crcL c l).toNat
  | [], c, r, h => by injection h with h; exact ⟨[], rfl, h.symm⟩
  | v :: cs, c, r, h => by
    unfold crcV at h
    split at h
    · cases ‹_ :: _ = []›
    · rename_i r' n c' heq
      injection heq with h1 h2
      subst h1; subst h2
      cases hn : Nat.blt n 256 with
      | false => rw [hn] at h; cases h
      | true =>
        rw [hn, cond_true] at h
        have hn' : n < 256 := by simpa [Nat.blt_eq] using hn
        have hx : n = (UInt8.ofNat n).toNat := by rw [UInt8.toNat_ofNat']; omega
        rw [hx, fbyte_eq] at h
        cases hb : Nat.blt (crcByte c (UInt8.ofNat n)).toNat 4294967296 with
        | false => rw [hb] at h; cases h
        | true =>
          rw [hb, cond_true] at h
          obtain ⟨l, h3, h4⟩ := crcV_of cs _ r h
          exact ⟨UInt8.ofNat n :: l, by rw [List.map_cons, ← h3]; unfold bv; rw [← hx]; rfl, h4⟩
    · cases h

def cellsB (a : Option Addr) (n : Nat) (M : Store) : Option (List Value) := bif Nat.beq n 0 then (match a with
    | none => some []
    | some ⟨_, _, none⟩ => some []
    | some ⟨_, _, some _⟩ => none)
  else match a with
    | some ⟨b, o, none⟩ => bif elemOk M (some ⟨b, o, none⟩) Ty.uint8 then rowOf M b o n else none
    | _ => none
theorem cellsB_of {a : Option Addr} {n c : Nat} {M : Store} {cs : List Value} (h : cellsB a n M = some cs) : Sl 1 Ty.uint8 M (.slice a n c) n cs := by
  unfold cellsB at h
  cases hn : Nat.beq n 0 with
  | true =>
    rw [hn, cond_true] at h
    obtain rfl := Nat.eq_of_beq_eq_true hn
    split at h
    · injection h with h; subst h; exact ⟨rfl, none, c, rfl, (fun _ h => by cases h), fun h => absurd h (Nat.lt_irrefl 0)⟩
    · rename_i b o
      injection h with h; subst h; exact ⟨rfl, some ⟨b, o, none⟩, c, rfl, fun x hx => by injection hx with hx; subst hx; rfl, fun h => absurd h (Nat.lt_irrefl 0)⟩
    · cases h
  | false =>
    rw [hn, cond_false] at h
    split at h
    · rename_i b o
      cases he : elemOk M (some ⟨b, o, none⟩) Ty.uint8 with
      | false => rw [he] at h; cases h
      | true =>
        rw [he, cond_true] at h
        unfold rowOf at h
        split at h
        · rename_i cells e' own hg
          split at h
          · rename_i hle
            injection h with h; subst h
            refine ⟨by simp; omega, some ⟨b, o, none⟩, c, rfl, fun x hx => by injection hx with hx; subst hx; rfl, fun _ => ⟨b, o, cells, e', own, rfl, hg, fun ho => ?_, by omega, by rw [Nat.mul_one]⟩⟩
            unfold elemOk at he
            simp only [hg, ho] at he
            simpa using he
          · cases h
        · cases h
    · cases h
def sumX : Array Value → Store → Option (Value × Store) := fun args M => match args.toList with
  | [.slice a n _] => bif Nat.ble n 67108864 then (cellsB a n M).bind fun cs => (crcV cs 4294967295).bind fun r => some (.int .u32 (.ofNat (Nat.xor r 4294967295)), M) else none
  | _ => none
theorem sumX_of {args : Array Value} {M : Store} {r : Value × Store} (h : sumX args M = some r) : ∃ v, ∃ l : List UInt8, args = #[v] ∧ By Ty.uint8 M v l ∧ l.length ≤ 2 ^ 26 ∧ r = (u32v (crc l), M) := by
  unfold sumX at h
  split at h
  · rename_i a n c hargs
    cases hn : Nat.ble n 67108864 with
    | false => rw [hn] at h; cases h
    | true =>
      rw [hn, cond_true] at h
      obtain ⟨cs, h1, h2⟩ := Option.bind_eq_some_iff.1 h
      obtain ⟨r', h3, h4⟩ := Option.bind_eq_some_iff.1 h2
      injection h4 with h4; subst h4
      have hs := cellsB_of (c := c) h1
      obtain ⟨l, h5, h6⟩ := crcV_of cs 4294967295#32 r' h3
      have hl : l.length = n := by have := hs.len; rw [h5, List.length_map, Nat.mul_one] at this; exact this
      refine ⟨_, l, by apply Array.toList_inj.1; simpa using hargs, ?_, ?_, ?_⟩
      · subst hl; rw [h5] at hs; exact hs
      · have := Nat.le_of_ble_eq_true hn; omega
      · rw [h6]
        unfold u32v crc
        rw [BitVec.toNat_xor]; rfl
  · cases h
theorem sumX_ok1 : CallOk1 Try.prog F.crcs_Sum sumX := by
  intro args M v M' h
  obtain ⟨x, l, rfl, hb, hl, hr⟩ := sumX_of h
  injection hr with h1 h2; subst h1; subst h2
  obtain ⟨k, v, M', h3, rfl, rfl⟩ := Sum_ok hb hl
  exact (call_ok k).fn F.crcs_Sum _ _ _ _ h3
theorem sumX_ok2 : CallOk1 Try.prog F.fettleref1_Sum sumX := by
  intro args M v M' h
  obtain ⟨x, l, rfl, hb, hl, hr⟩ := sumX_of h
  injection hr with h1 h2; subst h1; subst h2
  obtain ⟨k, v, M', h3, rfl, rfl⟩ := RSum_ok hb hl
  exact (call_ok k).fn F.fettleref1_Sum _ _ _ _ h3
/-- Sums are told at once. -/
def E1 : Ext := fun f => bif Nat.beq f F.crcs_Sum then some sumX else bif Nat.beq f F.fettleref1_Sum then some sumX else none
theorem E1_ok : ∀ f g, E1 f = some g → CallOk1 Try.prog f g := by
  intro f g h
  unfold E1 at h
  cases h1 : Nat.beq f F.crcs_Sum with
  | true => rw [h1, cond_true] at h; injection h with h; subst h; obtain rfl := Nat.eq_of_beq_eq_true h1; exact sumX_ok1
  | false =>
    rw [h1, cond_false] at h
    cases h2 : Nat.beq f F.fettleref1_Sum with
    | true => rw [h2, cond_true] at h; injection h with h; subst h; obtain rfl := Nat.eq_of_beq_eq_true h2; exact sumX_ok2
    | false => rw [h2] at h; cases h
theorem call_ok1 (k : Nat) : CallOk Try.prog (acall Try.prog E1 k) := call_okE E1 E1_ok k
/-- What a closed run under sums is worth. -/
theorem closed1 {k : Nat} {f : FuncId} (h : okB (acall Try.prog E1 k true f #[] M00) = true) : CallOk1 Try.prog f yes0 := by
  obtain ⟨M', h⟩ := okB_of h
  exact closed_ok (call_ok1 k) h

end Go.G0
