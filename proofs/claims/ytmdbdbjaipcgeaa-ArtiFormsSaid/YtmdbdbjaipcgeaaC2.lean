/- Numbers as bytes by the document's text; sums of bytes. -/
import Derived.Test.YtmdbdbjaipcgeaaGA
import Derived.Test.YtmdbdbjaipcgeaaC1
namespace Go.G
open Go.Ab Go.Proofs Go.RowKit
set_option linter.unusedVariables false
set_option linter.unusedSimpArgs false

theorem copy0 {M : Store} {x : Value} {l : List UInt8} (hx : B M x l) (hl : l.length ≤ 2 ^ 24) {K : Value → Store → Prop} (hK : ∀ v' M', Up M M' → N M M' v' l → K v' M') :
    OP2 (appV 1 Ty.uint8 (.slice (some ⟨M.n, 0, none⟩) 0 0) x (M.push (some (.inl ([], Ty.uint8, true))))) K := by
  have hn : N M (M.push (some (.inl (([] : List Value), Ty.uint8, true)))) (.slice (some ⟨M.n, 0, none⟩) 0 0) [] := Nw.lit (n := 0) (cs := []) (Nat.le_refl _) (by simp)
  obtain ⟨v', M', e, hu, hN, _⟩ := NB.app (Up.push M _) hn (Sl.up hx (Up.push M _)) (by simp; omega)
  rw [e, OP2_some]
  exact hK v' M' hu (by simpa using hN)

theorem wrap_u64 (n : Nat) (h : n < 2 ^ 64) : IntKind.wrap .u64 (n : Int) = (n : Int) := by
  simp [IntKind.wrap, IntKind.bits, IntKind.signed]; omega

theorem RNum_loop {M0 : Store} {n : Nat} (hn : n ≤ 1099511627776) {Q : Value → Store → Prop} : ∀ (d : Nat) (M : Store) (v : Value) (l : List UInt8), d ≤ 6 → l.length + d ≤ 2 ^ 26 → Up M0 M → N M0 M v l →
    (∀ v' M', Up M0 M' → N M0 M' v' (l ++ be d n) → Q v' M') → P_fettleref1_Num_1 (.int .i64 n) v (.int .i64 ((d : Int) - 1)) M Q := by
  intro d
  induction d with
  | zero =>
    intro M v l _ _ hu h hQ
    apply T_fettleref1_Num_1
    unfold S_fettleref1_Num_1
    simp (disch := omega) only [ev, if_neg, if_pos]
    apply T_fettleref1_Num_3
    exact ⟨nts_of h.sl, hQ _ _ hu (by simpa [be] using h)⟩
  | succ d ih =>
    intro M v l hd hl hu h hQ
    apply T_fettleref1_Num_1
    unfold S_fettleref1_Num_1
    have hd1 : ((d + 1 : Nat) : Int) - 1 = (d : Int) := by omega
    simp (disch := omega) only [ev, if_pos, w64, hd1]
    apply T_fettleref1_Num_2
    unfold S_fettleref1_Num_2
    have hw : IntKind.wrap .u64 (8 * (d : Int)) = 8 * (d : Int) := by
      have := wrap_u64 (8 * d) (by omega)
      simpa using this
    simp (disch := omega) only [ev, if_pos, w64, hw, e_shr, shr_byte]
    refine app1 hu h _ (by omega) fun v' M' hu' h' => ?_
    refine ih M' v' _ (by omega) (by simp; omega) hu' h' fun v2 M2 hu2 h2 => hQ v2 M2 hu2 ?_
    rw [List.append_assoc] at h2
    have e : n / 2 ^ (min (8 * d) 64) = n / 256 ^ d := by
      rw [Nat.min_eq_left (by omega), Nat.pow_mul]
    rw [e] at h2
    exact h2

theorem RNum_ok {M : Store} {v : Value} {l : List UInt8} (h : B M v l) (hl : l.length ≤ 2 ^ 24) (n : Int) : R F.fettleref1_Num #[v, .int .i64 n] M fun v' M' => Up M M' ∧ N M M' v' (l ++ be 6 (held n)) := by
  apply T_fettleref1_Num
  unfold S_fettleref1_Num
  simp only [ev]
  refine copy0 h hl fun v2 M2 hu2 h2 => ?_
  have hc : (if (1099511627776 : Int) < (if (0 : Int) > n then (0 : Int) else n) then (1099511627776 : Int) else (if (0 : Int) > n then (0 : Int) else n)) = (held n : Int) := clamp n
  rw [hc]
  exact RNum_loop (held_le n) 6 _ v2 l (by omega) (by omega) hu2 h2 fun v' M' hu' h' => ⟨hu', h'⟩

theorem RBytes_ok {M : Store} {v x : Value} {l k : List UInt8} (h : B M v l) (hx : B M x k) (hl : l.length ≤ 2 ^ 24) (hk : k.length ≤ 2 ^ 24) :
    R F.fettleref1_Bytes #[v, x] M fun v' M' => Up M M' ∧ N M M' v' (l ++ be 6 k.length ++ k) := by
  apply T_fettleref1_Bytes
  unfold S_fettleref1_Bytes
  rw [hx.lenV]
  simp only [ev]
  refine (RNum_ok h hl _).mono fun v1 M1 ⟨hu1, h1⟩ => ?_
  rw [held_of (by omega)] at h1
  obtain ⟨v', M', e, hu', h', _⟩ := NB.app hu1 h1 (Sl.up hx hu1) (by simp [be_length]; omega)
  rw [e, OP2_some]
  exact ⟨nts_of h'.sl, hu', h'⟩

/-! ## sums -/
def u32v (c : BitVec 32) : Value := .int .u32 (c.toNat : Int)
def crcBit (c : BitVec 32) : BitVec 32 := if c &&& 1#32 = 1#32 then (c >>> 1) ^^^ 3988292384#32 else c >>> 1
def crcBits : Nat → BitVec 32 → BitVec 32
  | 0, c => c
  | k + 1, c => crcBits k (crcBit c)
def crcByte (c : BitVec 32) (x : UInt8) : BitVec 32 := crcBits 8 (c ^^^ x.toBitVec.setWidth 32)
def crcL (c : BitVec 32) (l : List UInt8) : BitVec 32 := l.foldl crcByte c
def crc (l : List UInt8) : BitVec 32 := crcL 4294967295#32 l ^^^ 4294967295#32

theorem wrap_u32 (n : Nat) : IntKind.wrap .u32 (n : Int) = ((n % 2 ^ 32 : Nat) : Int) := by
  simp [IntKind.wrap, IntKind.bits, IntKind.signed]
theorem bvI (c : BitVec 32) : BitVec.ofInt 32 (c.toNat : Int) = c := by
  apply BitVec.eq_of_toNat_eq
  rw [BitVec.toNat_ofInt]
  have := c.isLt
  omega
theorem e_xor (a b : BitVec 32) (K : Value → Prop) : OP (binI .xor (u32v a) (u32v b)) K = K (u32v (a ^^^ b)) := by
  have h : binI .xor (u32v a) (u32v b) = some (.int .u32 (IntKind.wrap .u32 (BitVec.ofInt 32 (a.toNat : Int) ^^^ BitVec.ofInt 32 (b.toNat : Int)).toNat)) := rfl
  rw [h, bvI, bvI, wrap_u32, Nat.mod_eq_of_lt (BitVec.isLt _)]; rfl
theorem e_and (a b : BitVec 32) (K : Value → Prop) : OP (binI .and (u32v a) (u32v b)) K = K (u32v (a &&& b)) := by
  have h : binI .and (u32v a) (u32v b) = some (.int .u32 (IntKind.wrap .u32 (BitVec.ofInt 32 (a.toNat : Int) &&& BitVec.ofInt 32 (b.toNat : Int)).toNat)) := rfl
  rw [h, bvI, bvI, wrap_u32, Nat.mod_eq_of_lt (BitVec.isLt _)]; rfl
theorem u32_shr (a : BitVec 32) (k : Nat) (hk : k ≤ 32) (K : Value → Prop) : OP (binI .shr (u32v a) (.int .u64 (k : Int))) K = K (u32v (a >>> k)) := by
  unfold u32v
  rw [e_shr (by omega)]
  congr 2
  rw [Int.fdiv_eq_ediv_of_nonneg _ (Int.pow_nonneg (by decide))]
  have : min (k : Int).toNat (IntKind.bits .u32) = k := by simp [IntKind.bits]; omega
  rw [this, BitVec.toNat_ushiftRight, Nat.shiftRight_eq_div_pow]
  norm_cast
theorem u32_eql (a b : BitVec 32) (K : Value → Prop) : OP (binI .eql (u32v a) (u32v b)) K = K (.bool (decide (a = b))) := by
  unfold u32v
  rw [e_eql]
  congr 2
  rw [decide_eq_decide]
  constructor
  · intro h; apply BitVec.eq_of_toNat_eq; omega
  · rintro rfl; rfl
theorem cv_u32 (x : UInt8) (K : Value → Prop) : OP (cvI .u32 (bv x)) K = K (u32v (x.toBitVec.setWidth 32)) := by
  unfold bv u32v
  rw [e_cvI, wrap_u32]
  congr 3
  rw [BitVec.toNat_setWidth]; rfl
theorem cv_u8 (c : BitVec 32) (K : Value → Prop) : OP (cvI .u8 (u32v c)) K = K (bv (UInt8.ofNat c.toNat)) := by
  unfold bv u32v
  rw [e_cvI, wrap_u8]

theorem Sum_bits {x7 x8 x9 : Value} {M : Store} {Q : Value → Store → Prop} : ∀ (d : Nat) (c : BitVec 32), d ≤ 8 → P_crcs_Sum_4 (u32v (crcBits d c)) x7 x8 x9 M Q → P_crcs_Sum_2 (u32v c) x7 x8 x9 (.int .i64 (8 - d)) M Q := by
  intro d
  induction d with
  | zero =>
    intro c _ h
    apply T_crcs_Sum_2
    unfold S_crcs_Sum_2
    simp (disch := omega) only [ev, if_neg]
    exact h
  | succ d ih =>
    intro c hd h
    apply T_crcs_Sum_2
    unfold S_crcs_Sum_2
    have e1 : (.int .u32 1 : Value) = u32v 1#32 := rfl
    have e2 : (.int .u32 3988292384 : Value) = u32v 3988292384#32 := rfl
    have e3 := u32_shr c 1 (by omega)
    have e4 : (8 - ((d + 1 : Nat) : Int)) + 1 = 8 - (d : Int) := by omega
    have e5 : ((1 : Nat) : Int) = 1 := rfl
    rw [e5] at e3
    rw [e1, e2]
    simp (disch := omega) only [ev, if_pos, e_and, e3, u32_eql, e_xor, w64, e4]
    simp only [crcBits, crcBit] at h
    split
    · rename_i h1; rw [if_pos h1] at h; exact ih _ (by omega) h
    · rename_i h1; rw [if_neg h1] at h; exact ih _ (by omega) h

theorem Sum_loop {M : Store} {x : Value} {l : List UInt8} (hx : B M x l) (hl : l.length ≤ 2 ^ 26) {Q : Value → Store → Prop} : ∀ (d i : Nat) (c : BitVec 32), d + i = l.length → Q (u32v (crcL c (l.drop i) ^^^ 4294967295#32)) M →
    P_crcs_Sum_1 (u32v c) x (.int .i64 (l.length : Int)) (.int .i64 (i : Int)) M Q := by
  intro d
  induction d with
  | zero =>
    intro i c hi h
    apply T_crcs_Sum_1
    unfold S_crcs_Sum_1
    simp (disch := omega) only [ev, if_neg]
    apply T_crcs_Sum_3
    unfold S_crcs_Sum_3
    have e1 : (.int .u32 4294967295 : Value) = u32v 4294967295#32 := rfl
    rw [List.drop_of_length_le (by omega)] at h
    rw [e1, e_xor]
    exact ⟨rfl, h⟩
  | succ d ih =>
    intro i c hi h
    apply T_crcs_Sum_1
    unfold S_crcs_Sum_1
    obtain ⟨p, h1, h2⟩ := By.at hx (i := i) (by omega) .i64
    simp (disch := omega) only [ev, if_pos, h1, h2, cv_u32, e_xor]
    refine Sum_bits 8 _ (by omega) ?_
    apply T_crcs_Sum_4
    unfold S_crcs_Sum_4
    simp (disch := omega) only [ev, w64]
    refine ih (i + 1) _ (by omega) ?_
    rw [List.drop_eq_getElem_cons (by omega)] at h
    exact h

theorem Sum_ok {M : Store} {x : Value} {l : List UInt8} (hx : B M x l) (hl : l.length ≤ 2 ^ 26) : R F.crcs_Sum #[x] M fun v M' => M' = M ∧ v = u32v (crc l) := by
  apply T_crcs_Sum
  unfold S_crcs_Sum
  rw [hx.lenV]
  simp only [ev]
  exact Sum_loop hx hl l.length 0 4294967295#32 rfl ⟨rfl, rfl⟩

theorem RSum_bits {x0 x4 : Value} {M : Store} {Q : Value → Store → Prop} : ∀ (d : Nat) (c : BitVec 32), d ≤ 8 → P_fettleref1_Sum_4 x0 (u32v (crcBits d c)) x4 M Q → P_fettleref1_Sum_2 x0 (u32v c) x4 (.int .i64 (8 - d)) M Q := by
  intro d
  induction d with
  | zero =>
    intro c _ h
    apply T_fettleref1_Sum_2
    unfold S_fettleref1_Sum_2
    simp (disch := omega) only [ev, if_neg]
    exact h
  | succ d ih =>
    intro c hd h
    apply T_fettleref1_Sum_2
    unfold S_fettleref1_Sum_2
    have e1 : (.int .u32 1 : Value) = u32v 1#32 := rfl
    have e2 : (.int .u32 3988292384 : Value) = u32v 3988292384#32 := rfl
    have e3 := u32_shr c 1 (by omega)
    have e4 : (8 - ((d + 1 : Nat) : Int)) + 1 = 8 - (d : Int) := by omega
    have e5 : ((1 : Nat) : Int) = 1 := rfl
    rw [e5] at e3
    rw [e1, e2]
    simp (disch := omega) only [ev, if_pos, e_and, e3, u32_eql, e_xor, w64, e4]
    simp only [crcBits, crcBit] at h
    split
    · rename_i h1; rw [if_pos h1] at h; exact ih _ (by omega) h
    · rename_i h1; rw [if_neg h1] at h; exact ih _ (by omega) h

theorem RSum_loop {M : Store} {x : Value} {l : List UInt8} (hx : B M x l) (hl : l.length ≤ 2 ^ 26) {Q : Value → Store → Prop} : ∀ (d i : Nat) (c : BitVec 32), d + i = l.length → Q (u32v (crcL c (l.drop i) ^^^ 4294967295#32)) M →
    P_fettleref1_Sum_1 x (u32v c) (.int .i64 (i : Int)) M Q := by
  intro d
  induction d with
  | zero =>
    intro i c hi h
    apply T_fettleref1_Sum_1
    unfold S_fettleref1_Sum_1
    rw [hx.lenV]
    simp (disch := omega) only [ev, if_neg]
    apply T_fettleref1_Sum_3
    unfold S_fettleref1_Sum_3
    have e1 : (.int .u32 4294967295 : Value) = u32v 4294967295#32 := rfl
    rw [List.drop_of_length_le (by omega)] at h
    rw [e1, e_xor]
    exact ⟨rfl, h⟩
  | succ d ih =>
    intro i c hi h
    apply T_fettleref1_Sum_1
    unfold S_fettleref1_Sum_1
    rw [hx.lenV]
    obtain ⟨p, h1, h2⟩ := By.at hx (i := i) (by omega) .i64
    simp (disch := omega) only [ev, if_pos, h1, h2, cv_u32, e_xor]
    refine RSum_bits 8 _ (by omega) ?_
    apply T_fettleref1_Sum_4
    unfold S_fettleref1_Sum_4
    simp (disch := omega) only [ev, w64]
    refine ih (i + 1) _ (by omega) ?_
    rw [List.drop_eq_getElem_cons (by omega)] at h
    exact h

theorem RSum_ok {M : Store} {x : Value} {l : List UInt8} (hx : B M x l) (hl : l.length ≤ 2 ^ 26) : R F.fettleref1_Sum #[x] M fun v M' => M' = M ∧ v = u32v (crc l) := by
  apply T_fettleref1_Sum
  unfold S_fettleref1_Sum
  exact RSum_loop hx hl l.length 0 4294967295#32 rfl ⟨rfl, rfl⟩

/-- Four bytes, the highest first. -/
def sum4 (c : BitVec 32) : List UInt8 := [UInt8.ofNat (c >>> 24).toNat, UInt8.ofNat (c >>> 16).toNat, UInt8.ofNat (c >>> 8).toNat, UInt8.ofNat c.toNat]

theorem e_lit4b (z : Value) (a b c d : UInt8) (K : List Value → Prop) : OP (bldL z 1 4 [(0, bv a), (1, bv b), (2, bv c), (3, bv d)]) K = K [bv a, bv b, bv c, bv d] := e_lit4 z _ _ _ _ _ _ _ _ K
theorem sum_ok {M : Store} {x : Value} {l : List UInt8} (hx : B M x l) (hl : l.length ≤ 2 ^ 26) : R F.fram_sum #[x] M fun v M' => Up M M' ∧ N M M' v (sum4 (crc l)) := by
  apply T_fram_sum
  unfold S_fram_sum
  refine (Sum_ok hx hl).mono fun v M' ⟨e1, e2⟩ => ?_
  subst e1; subst e2
  have h24 := u32_shr (crc l) 24 (by omega)
  have h16 := u32_shr (crc l) 16 (by omega)
  have h8 := u32_shr (crc l) 8 (by omega)
  simp only [Int.cast_ofNat_Int] at h24 h16 h8
  simp only [h24, h16, h8, cv_u8, e_lit4b, ev]
  refine ⟨rfl, Up.push _ _, ?_⟩
  exact Nw.lit (n := 4) (Nat.le_refl _) rfl

end Go.G
