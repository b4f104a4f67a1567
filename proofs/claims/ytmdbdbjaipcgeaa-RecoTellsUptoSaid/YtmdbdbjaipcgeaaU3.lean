/- Numbers as bytes, copies of slices: what the calls come to. Numbers as bytes by the document's text; sums of bytes. Slices put together; frames made; rows compared. Readers: numbers and bytes read one behind the other. The document's own readers. Frames found: the document's own scan. Frames found, by the program. Frames gone through, and all of them. A range over frames whose rounds write boxes alone. Layer 3: what the document fixes, and frames told. Bytes are framed, and frames found in any bytes, one behind the other, as the document says; for inputs of bulk at most 1048576. Layer 3: frames told, from the beginning. -/
import Derived.Test.YtmdbdbjaipcgeaaGA
import Derived.Test.YtmdbdbjaipcgeaaAbLib
namespace Go.G
open Go.Ab Go.Proofs Go.RowKit
set_option linter.unusedVariables false
set_option linter.unusedSimpArgs false

abbrev B (M : Store) (v : Value) (l : List UInt8) : Prop := By Ty.uint8 M v l
abbrev N (M0 M : Store) (v : Value) (l : List UInt8) : Prop := NB Ty.uint8 M0 M v l

theorem R.mono {f : FuncId} {args : Array Value} {M : Store} {Q Q' : Value → Store → Prop} (h : R f args M Q) (k : ∀ v M', Q v M' → Q' v M') : R f args M Q' := Runs.mono h k

theorem Clone_ok {M : Store} {v : Value} {l : List UInt8} (h : B M v l) (hl : l.length ≤ 2 ^ 24) : R F.slices_Clone_sl_byte_byte #[v] M fun v' M' => Up M M' ∧ N M M' v' l := by
  apply T_slices_Clone_sl_byte_byte
  obtain ⟨a, c, rfl⟩ := h.slice
  unfold S_slices_Clone_sl_byte_byte
  rw [abin_nil U.sl_uint8]
  cases a with
  | none =>
    obtain ⟨h1, a, c', h2, h3, h4⟩ := h
    injection h2 with h2 h5 h6
    subst h2; subst h6
    have : l.length = 0 := by
      rcases Nat.eq_zero_or_pos l.length with h | h
      · exact h
      · obtain ⟨b, o, cells, e', own, h7, _⟩ := h4 h; cases h7
    have hl : l = [] := List.length_eq_zero_iff.1 this
    subst hl
    simp only [Option.isNone_none, ev]
    exact ⟨rfl, Ch.refl _ _, Nw.nil _ _ _ _⟩
  | some a =>
    simp only [Option.isNone_some, ev]
    have hn : N M (M.push (some (.inl (([] : List Value), Ty.uint8, true)))) (.slice (some ⟨M.n, 0, none⟩) 0 0) [] := Nw.lit (n := 0) (cs := []) (Nat.le_refl _) (by simp)
    obtain ⟨v', M', e, hu, hN, _⟩ := NB.app (Up.push M _) hn (Sl.up h (Up.push M _)) (by simp; omega)
    rw [e, OP2_some]
    refine ⟨?_, hu, by simpa using hN⟩
    obtain ⟨a, c, rfl⟩ := hN.sl.slice
    rfl

theorem NTs_sl {a : Option Addr} {n c : Nat} : NTs [.slice a n c] := rfl
theorem nts_of {s e M v n cs} (h : Sl s e M v n cs) : NTs [v] := by obtain ⟨a, c, rfl⟩ := h.slice; rfl

theorem slM_full {s e : Nat} {M0 M : Store} {v : Value} {n : Nat} {cs : List Value} (h : Nw s e M0 M v n cs) : ∃ v', slM s e v none (.int .i64 n) (.int .i64 n) M = some v' ∧ Nw s e M0 M v' n cs := by
  obtain ⟨h1, ⟨rfl, a, rfl, h2⟩ | ⟨b, cells, c, rfl, h2, h3, h4, h5, h6⟩⟩ := h
  · refine ⟨.slice a 0 0, ?_, h1, .inl ⟨rfl, a, rfl, h2⟩⟩
    cases a with
    | none => simp [slM, abound]
    | some x => obtain ⟨b, o, sp⟩ := x; simp [slM, abound, Addr.add]
  · refine ⟨.slice (some ⟨b, 0, none⟩) n n, ?_, h1, .inr ⟨b, cells, n, rfl, h2, h3, h4, h5, .inl rfl⟩⟩
    simp [slM, abound, elemOk, h3, Addr.add]

theorem Clip_ok {M0 M : Store} {v : Value} {l : List UInt8} (h : N M0 M v l) : R F.slices_Clip_sl_byte_byte #[v] M fun v' M' => M' = M ∧ N M0 M v' l := by
  apply T_slices_Clip_sl_byte_byte
  obtain ⟨v', e, h'⟩ := slM_full h
  unfold S_slices_Clip_sl_byte_byte
  rw [h.sl.lenV]
  simp only [ev, e]
  exact ⟨nts_of h'.sl, trivial, h'⟩

/-- The lowest k bytes of a number, the highest first. -/
def be : Nat → Nat → List UInt8
  | 0, _ => []
  | k + 1, n => UInt8.ofNat (n / 256 ^ k) :: be k n
theorem be_length (k n : Nat) : (be k n).length = k := by induction k <;> simp [be, *]
/-- A number held to its bounds. -/
def held (n : Int) : Nat := (min (max n 0) 1099511627776).toNat
theorem wrap_u8 (n : Nat) : IntKind.wrap .u8 (n : Int) = ((UInt8.ofNat n).toNat : Int) := by
  simp [IntKind.wrap, IntKind.bits, IntKind.signed]
theorem app1 {M0 M : Store} (hu : Up M0 M) {v : Value} {l : List UInt8} (h : N M0 M v l) (x : UInt8) (hz : l.length + 1 ≤ 2 ^ 28) {K : Value → Store → Prop} (hK : ∀ v' M', Up M0 M' → N M0 M' v' (l ++ [x]) → K v' M') :
    OP2 (appV 1 Ty.uint8 v (.slice (some ⟨M.n, 0, none⟩) 1 1) (M.push (some (.inl ([bv x], Ty.uint8, true))))) K := by
  have hx : N M0 (M.push (some (.inl ([bv x], Ty.uint8, true)))) (.slice (some ⟨M.n, 0, none⟩) 1 1) [x] := Nw.lit (n := 1) hu.le (by simp)
  obtain ⟨v', M', e, hu', hN, _⟩ := NB.app (hu.push' _) (Nw.up h (Up.push M _)) hx.by (by simpa using hz)
  rw [e, OP2_some]; exact hK v' M' hu' hN

theorem shr_byte (n j : Nat) : IntKind.wrap .u8 ((n : Int).fdiv (2 ^ (min ((8 : Int) * (j : Int)).toNat (IntKind.bits .i64)))) = ((UInt8.ofNat (n / 2 ^ (min (8 * j) 64))).toNat : Int) := by
  have : ((8 : Int) * (j : Int)).toNat = 8 * j := by omega
  rw [this, ← wrap_u8]
  congr 1
  rw [Int.fdiv_eq_ediv_of_nonneg _ (Int.pow_nonneg (by decide))]
  simp only [IntKind.bits]
  norm_cast

theorem Num_loop {M0 : Store} {n : Nat} (hn : n ≤ 1099511627776) {Q : Value → Store → Prop} : ∀ (d : Nat) (M : Store) (v : Value) (l : List UInt8), d ≤ 6 → l.length + d ≤ 2 ^ 26 → Up M0 M → N M0 M v l →
    (∀ v' M', Up M0 M' → N M0 M' v' (l ++ be d n) → Q v' M') → P_code_Num_1 (.int .i64 n) v (.int .i64 ((d : Int) - 1)) M Q := by
  intro d
  induction d with
  | zero =>
    intro M v l _ _ hu h hQ
    apply T_code_Num_1
    unfold S_code_Num_1
    simp (disch := omega) only [ev, if_neg, if_pos]
    apply T_code_Num_2
    exact ⟨nts_of h.sl, hQ _ _ hu (by simpa [be] using h)⟩
  | succ d ih =>
    intro M v l hd hl hu h hQ
    apply T_code_Num_1
    unfold S_code_Num_1
    have hd1 : ((d + 1 : Nat) : Int) - 1 = (d : Int) := by omega
    simp (disch := omega) only [ev, if_pos, w64, hd1, e_shr, shr_byte]
    refine app1 hu h _ (by omega) fun v' M' hu' h' => ?_
    refine ih M' v' _ (by omega) (by simp; omega) hu' h' fun v2 M2 hu2 h2 => hQ v2 M2 hu2 ?_
    rw [List.append_assoc] at h2
    have e : n / 2 ^ (min (8 * d) 64) = n / 256 ^ d := by
      rw [Nat.min_eq_left (by omega), Nat.pow_mul]
    rw [e] at h2
    exact h2

theorem clamp (n : Int) : (if (if (0 : Int) > n then (0 : Int) else n) > (1099511627776 : Int) then (1099511627776 : Int) else (if (0 : Int) > n then (0 : Int) else n)) = (held n : Int) := by
  unfold held; split <;> split <;> omega
theorem held_le (n : Int) : held n ≤ 1099511627776 := by unfold held; omega
theorem held_of {n : Nat} (h : n ≤ 1099511627776) : held (n : Int) = n := by unfold held; omega

theorem Num_ok {M : Store} {v : Value} {l : List UInt8} (h : B M v l) (hl : l.length ≤ 2 ^ 24) (n : Int) : R F.code_Num #[v, .int .i64 n] M fun v' M' => Up M M' ∧ N M M' v' (l ++ be 6 (held n)) := by
  apply T_code_Num
  unfold S_code_Num
  simp only [ev]
  refine (Clone_ok h hl).mono fun v1 M1 ⟨hu1, h1⟩ => ?_
  refine (Clip_ok h1).mono fun v2 M2 ⟨e2, h2⟩ => ?_
  subst e2
  have hc : (if (1099511627776 : Int) < (if (0 : Int) > n then (0 : Int) else n) then (1099511627776 : Int) else (if (0 : Int) > n then (0 : Int) else n)) = (held n : Int) := clamp n
  rw [hc]
  exact Num_loop (held_le n) 6 _ v2 l (by omega) (by omega) hu1 h2 fun v' M' hu' h' => ⟨hu', h'⟩

theorem Bytes_ok {M : Store} {v x : Value} {l k : List UInt8} (h : B M v l) (hx : B M x k) (hl : l.length ≤ 2 ^ 24) (hk : k.length ≤ 2 ^ 24) :
    R F.code_Bytes #[v, x] M fun v' M' => Up M M' ∧ N M M' v' (l ++ be 6 k.length ++ k) := by
  apply T_code_Bytes
  unfold S_code_Bytes
  rw [hx.lenV]
  simp only [ev]
  refine (Num_ok h hl _).mono fun v1 M1 ⟨hu1, h1⟩ => ?_
  rw [held_of (by omega)] at h1
  obtain ⟨v', M', e, hu', h', _⟩ := NB.app hu1 h1 (Sl.up hx hu1) (by simp [be_length]; omega)
  rw [e, OP2_some]
  exact ⟨nts_of h'.sl, hu', h'⟩

end Go.G

namespace Go.G
open Go.Ab Go.Proofs Go.RowKit
set_option linter.unusedVariables false
set_option linter.unusedSimpArgs false

theorem copy0 {M : Store} {x : Value} {l : List UInt8} (hx : B M x l) (hl : l.length ≤ 2 ^ 24) {K : Value → Store → Prop} (hK : ∀ v' M', Up M M' → N M M' v' l → K v' M') :
    OP2 (appV 1 Ty.uint8 (.slice (some ⟨M.n, 0, none⟩) 0 0) x (M.push (some (.inl ([], Ty.uint8, true))))) K := by
  have hn : N M (M.push (some (.inl (([] : List Value), Ty.uint8, true)))) (.slice (some ⟨M.n, 0, none⟩) 0 0) [] := Nw.lit (n := 0) (cs := []) (Nat.le_refl _) (by simp)
  obtain ⟨v', M', e, hu, hN, _⟩ := NB.app (Up.push M _) hn (Sl.up hx (Up.push M _)) (by simp; omega)
  rw [e, OP2_some]
  exact hK v' M' hu (by simpa using hN)

theorem wrap_u64 (n : Nat) (h : n < 2 ^ 64) : IntKind.wrap .u64 (n : Int) = (n : Int) := by
  simp [IntKind.wrap, IntKind.bits, IntKind.signed]; omega

theorem RNum_loop {M0 : Store} {n : Nat} (hn : n ≤ 1099511627776) {Q : Value → Store → Prop} : ∀ (d : Nat) (M : Store) (v : Value) (l : List UInt8), d ≤ 6 → l.length + d ≤ 2 ^ 26 → Up M0 M → N M0 M v l →
    (∀ v' M', Up M0 M' → N M0 M' v' (l ++ be d n) → Q v' M') → P_fettleref1_Num_1 (.int .i64 n) v (.int .i64 ((d : Int) - 1)) M Q := by
  intro d
  induction d with
  | zero =>
    intro M v l _ _ hu h hQ
    apply T_fettleref1_Num_1
    unfold S_fettleref1_Num_1
    simp (disch := omega) only [ev, if_neg, if_pos]
    apply T_fettleref1_Num_3
    exact ⟨nts_of h.sl, hQ _ _ hu (by simpa [be] using h)⟩
  | succ d ih =>
    intro M v l hd hl hu h hQ
    apply T_fettleref1_Num_1
    unfold S_fettleref1_Num_1
    have hd1 : ((d + 1 : Nat) : Int) - 1 = (d : Int) := by omega
    simp (disch := omega) only [ev, if_pos, w64, hd1]
    apply T_fettleref1_Num_2
    unfold S_fettleref1_Num_2
    have hw : IntKind.wrap .u64 (8 * (d : Int)) = 8 * (d : Int) := by
      have := wrap_u64 (8 * d) (by omega)
      simpa using this
    simp (disch := omega) only [ev, if_pos, w64, hw, e_shr, shr_byte]
    refine app1 hu h _ (by omega) fun v' M' hu' h' => ?_
    refine ih M' v' _ (by omega) (by simp; omega) hu' h' fun v2 M2 hu2 h2 => hQ v2 M2 hu2 ?_
    rw [List.append_assoc] at h2
    have e : n / 2 ^ (min (8 * d) 64) = n / 256 ^ d := by
      rw [Nat.min_eq_left (by omega), Nat.pow_mul]
    rw [e] at h2
    exact h2

theorem RNum_ok {M : Store} {v : Value} {l : List UInt8} (h : B M v l) (hl : l.length ≤ 2 ^ 24) (n : Int) : R F.fettleref1_Num #[v, .int .i64 n] M fun v' M' => Up M M' ∧ N M M' v' (l ++ be 6 (held n)) := by
  apply T_fettleref1_Num
  unfold S_fettleref1_Num
  simp only [ev]
  refine copy0 h hl fun v2 M2 hu2 h2 => ?_
  have hc : (if (1099511627776 : Int) < (if (0 : Int) > n then (0 : Int) else n) then (1099511627776 : Int) else (if (0 : Int) > n then (0 : Int) else n)) = (held n : Int) := clamp n
  rw [hc]
  exact RNum_loop (held_le n) 6 _ v2 l (by omega) (by omega) hu2 h2 fun v' M' hu' h' => ⟨hu', h'⟩

theorem RBytes_ok {M : Store} {v x : Value} {l k : List UInt8} (h : B M v l) (hx : B M x k) (hl : l.length ≤ 2 ^ 24) (hk : k.length ≤ 2 ^ 24) :
    R F.fettleref1_Bytes #[v, x] M fun v' M' => Up M M' ∧ N M M' v' (l ++ be 6 k.length ++ k) := by
  apply T_fettleref1_Bytes
  unfold S_fettleref1_Bytes
  rw [hx.lenV]
  simp only [ev]
  refine (RNum_ok h hl _).mono fun v1 M1 ⟨hu1, h1⟩ => ?_
  rw [held_of (by omega)] at h1
  obtain ⟨v', M', e, hu', h', _⟩ := NB.app hu1 h1 (Sl.up hx hu1) (by simp [be_length]; omega)
  rw [e, OP2_some]
  exact ⟨nts_of h'.sl, hu', h'⟩

/-! ## sums -/
def u32v (c : BitVec 32) : Value := .int .u32 (c.toNat : Int)
def crcBit (c : BitVec 32) : BitVec 32 := if c &&& 1#32 = 1#32 then (c >>> 1) ^^^ 3988292384#32 else c >>> 1
def crcBits : Nat → BitVec 32 → BitVec 32
  | 0, c => c
  | k + 1, c => crcBits k (crcBit c)
def crcByte (c : BitVec 32) (x : UInt8) : BitVec 32 := crcBits 8 (c ^^^ x.toBitVec.setWidth 32)
def crcL (c : BitVec 32) (l : List UInt8) : BitVec 32 := l.foldl crcByte c
def crc (l : List UInt8) : BitVec 32 := crcL 4294967295#32 l ^^^ 4294967295#32

theorem wrap_u32 (n : Nat) : IntKind.wrap .u32 (n : Int) = ((n % 2 ^ 32 : Nat) : Int) := by
  simp [IntKind.wrap, IntKind.bits, IntKind.signed]
theorem bvI (c : BitVec 32) : BitVec.ofInt 32 (c.toNat : Int) = c := by
  apply BitVec.eq_of_toNat_eq
  rw [BitVec.toNat_ofInt]
  have := c.isLt
  omega
theorem e_xor (a b : BitVec 32) (K : Value → Prop) : OP (binI .xor (u32v a) (u32v b)) K = K (u32v (a ^^^ b)) := by
  have h : binI .xor (u32v a) (u32v b) = some (.int .u32 (IntKind.wrap .u32 (BitVec.ofInt 32 (a.toNat : Int) ^^^ BitVec.ofInt 32 (b.toNat : Int)).toNat)) := rfl
  rw [h, bvI, bvI, wrap_u32, Nat.mod_eq_of_lt (BitVec.isLt _)]; rfl
theorem e_and (a b : BitVec 32) (K : Value → Prop) : OP (binI .and (u32v a) (u32v b)) K = K (u32v (a &&& b)) := by
  have h : binI .and (u32v a) (u32v b) = some (.int .u32 (IntKind.wrap .u32 (BitVec.ofInt 32 (a.toNat : Int) &&& BitVec.ofInt 32 (b.toNat : Int)).toNat)) := rfl
  rw [h, bvI, bvI, wrap_u32, Nat.mod_eq_of_lt (BitVec.isLt _)]; rfl
theorem u32_shr (a : BitVec 32) (k : Nat) (hk : k ≤ 32) (K : Value → Prop) : OP (binI .shr (u32v a) (.int .u64 (k : Int))) K = K (u32v (a >>> k)) := by
  unfold u32v
  rw [e_shr (by omega)]
  congr 2
  rw [Int.fdiv_eq_ediv_of_nonneg _ (Int.pow_nonneg (by decide))]
  have : min (k : Int).toNat (IntKind.bits .u32) = k := by simp [IntKind.bits]; omega
  rw [this, BitVec.toNat_ushiftRight, Nat.shiftRight_eq_div_pow]
  norm_cast
theorem u32_eql (a b : BitVec 32) (K : Value → Prop) : OP (binI .eql (u32v a) (u32v b)) K = K (.bool (decide (a = b))) := by
  unfold u32v
  rw [e_eql]
  congr 2
  rw [decide_eq_decide]
  constructor
  · intro h; apply BitVec.eq_of_toNat_eq; omega
  · rintro rfl; rfl
theorem cv_u32 (x : UInt8) (K : Value → Prop) : OP (cvI .u32 (bv x)) K = K (u32v (x.toBitVec.setWidth 32)) := by
  unfold bv u32v
  rw [e_cvI, wrap_u32]
  congr 3
  rw [BitVec.toNat_setWidth]; rfl
theorem cv_u8 (c : BitVec 32) (K : Value → Prop) : OP (cvI .u8 (u32v c)) K = K (bv (UInt8.ofNat c.toNat)) := by
  unfold bv u32v
  rw [e_cvI, wrap_u8]

theorem Sum_bits {x7 x8 x9 : Value} {M : Store} {Q : Value → Store → Prop} : ∀ (d : Nat) (c : BitVec 32), d ≤ 8 → P_crcs_Sum_4 (u32v (crcBits d c)) x7 x8 x9 M Q → P_crcs_Sum_2 (u32v c) x7 x8 x9 (.int .i64 (8 - d)) M Q := by
  intro d
  induction d with
  | zero =>
    intro c _ h
    apply T_crcs_Sum_2
    unfold S_crcs_Sum_2
    simp (disch := omega) only [ev, if_neg]
    exact h
  | succ d ih =>
    intro c hd h
    apply T_crcs_Sum_2
    unfold S_crcs_Sum_2
    have e1 : (.int .u32 1 : Value) = u32v 1#32 := rfl
    have e2 : (.int .u32 3988292384 : Value) = u32v 3988292384#32 := rfl
    have e3 := u32_shr c 1 (by omega)
    have e4 : (8 - ((d + 1 : Nat) : Int)) + 1 = 8 - (d : Int) := by omega
    have e5 : ((1 : Nat) : Int) = 1 := rfl
    rw [e5] at e3
    rw [e1, e2]
    simp (disch := omega) only [ev, if_pos, e_and, e3, u32_eql, e_xor, w64, e4]
    simp only [crcBits, crcBit] at h
    split
    · rename_i h1; rw [if_pos h1] at h; exact ih _ (by omega) h
    · rename_i h1; rw [if_neg h1] at h; exact ih _ (by omega) h

theorem Sum_loop {M : Store} {x : Value} {l : List UInt8} (hx : B M x l) (hl : l.length ≤ 2 ^ 26) {Q : Value → Store → Prop} : ∀ (d i : Nat) (c : BitVec 32), d + i = l.length → Q (u32v (crcL c (l.drop i) ^^^ 4294967295#32)) M →
    P_crcs_Sum_1 (u32v c) x (.int .i64 (l.length : Int)) (.int .i64 (i : Int)) M Q := by
  intro d
  induction d with
  | zero =>
    intro i c hi h
    apply T_crcs_Sum_1
    unfold S_crcs_Sum_1
    simp (disch := omega) only [ev, if_neg]
    apply T_crcs_Sum_3
    unfold S_crcs_Sum_3
    have e1 : (.int .u32 4294967295 : Value) = u32v 4294967295#32 := rfl
    rw [List.drop_of_length_le (by omega)] at h
    rw [e1, e_xor]
    exact ⟨rfl, h⟩
  | succ d ih =>
    intro i c hi h
    apply T_crcs_Sum_1
    unfold S_crcs_Sum_1
    obtain ⟨p, h1, h2⟩ := By.at hx (i := i) (by omega) .i64
    simp (disch := omega) only [ev, if_pos, h1, h2, cv_u32, e_xor]
    refine Sum_bits 8 _ (by omega) ?_
    apply T_crcs_Sum_4
    unfold S_crcs_Sum_4
    simp (disch := omega) only [ev, w64]
    refine ih (i + 1) _ (by omega) ?_
    rw [List.drop_eq_getElem_cons (by omega)] at h
    exact h

theorem Sum_ok {M : Store} {x : Value} {l : List UInt8} (hx : B M x l) (hl : l.length ≤ 2 ^ 26) : R F.crcs_Sum #[x] M fun v M' => M' = M ∧ v = u32v (crc l) := by
  apply T_crcs_Sum
  unfold S_crcs_Sum
  rw [hx.lenV]
  simp only [ev]
  exact Sum_loop hx hl l.length 0 4294967295#32 rfl ⟨rfl, rfl⟩

theorem RSum_bits {x0 x4 : Value} {M : Store} {Q : Value → Store → Prop} : ∀ (d : Nat) (c : BitVec 32), d ≤ 8 → P_fettleref1_Sum_4 x0 (u32v (crcBits d c)) x4 M Q → P_fettleref1_Sum_2 x0 (u32v c) x4 (.int .i64 (8 - d)) M Q := by
  intro d
  induction d with
  | zero =>
    intro c _ h
    apply T_fettleref1_Sum_2
    unfold S_fettleref1_Sum_2
    simp (disch := omega) only [ev, if_neg]
    exact h
  | succ d ih =>
    intro c hd h
    apply T_fettleref1_Sum_2
    unfold S_fettleref1_Sum_2
    have e1 : (.int .u32 1 : Value) = u32v 1#32 := rfl
    have e2 : (.int .u32 3988292384 : Value) = u32v 3988292384#32 := rfl
    have e3 := u32_shr c 1 (by omega)
    have e4 : (8 - ((d + 1 : Nat) : Int)) + 1 = 8 - (d : Int) := by omega
    have e5 : ((1 : Nat) : Int) = 1 := rfl
    rw [e5] at e3
    rw [e1, e2]
    simp (disch := omega) only [ev, if_pos, e_and, e3, u32_eql, e_xor, w64, e4]
    simp only [crcBits, crcBit] at h
    split
    · rename_i h1; rw [if_pos h1] at h; exact ih _ (by omega) h
    · rename_i h1; rw [if_neg h1] at h; exact ih _ (by omega) h

theorem RSum_loop {M : Store} {x : Value} {l : List UInt8} (hx : B M x l) (hl : l.length ≤ 2 ^ 26) {Q : Value → Store → Prop} : ∀ (d i : Nat) (c : BitVec 32), d + i = l.length → Q (u32v (crcL c (l.drop i) ^^^ 4294967295#32)) M →
    P_fettleref1_Sum_1 x (u32v c) (.int .i64 (i : Int)) M Q := by
  intro d
  induction d with
  | zero =>
    intro i c hi h
    apply T_fettleref1_Sum_1
    unfold S_fettleref1_Sum_1
    rw [hx.lenV]
    simp (disch := omega) only [ev, if_neg]
    apply T_fettleref1_Sum_3
    unfold S_fettleref1_Sum_3
    have e1 : (.int .u32 4294967295 : Value) = u32v 4294967295#32 := rfl
    rw [List.drop_of_length_le (by omega)] at h
    rw [e1, e_xor]
    exact ⟨rfl, h⟩
  | succ d ih =>
    intro i c hi h
    apply T_fettleref1_Sum_1
    unfold S_fettleref1_Sum_1
    rw [hx.lenV]
    obtain ⟨p, h1, h2⟩ := By.at hx (i := i) (by omega) .i64
    simp (disch := omega) only [ev, if_pos, h1, h2, cv_u32, e_xor]
    refine RSum_bits 8 _ (by omega) ?_
    apply T_fettleref1_Sum_4
    unfold S_fettleref1_Sum_4
    simp (disch := omega) only [ev, w64]
    refine ih (i + 1) _ (by omega) ?_
    rw [List.drop_eq_getElem_cons (by omega)] at h
    exact h

theorem RSum_ok {M : Store} {x : Value} {l : List UInt8} (hx : B M x l) (hl : l.length ≤ 2 ^ 26) : R F.fettleref1_Sum #[x] M fun v M' => M' = M ∧ v = u32v (crc l) := by
  apply T_fettleref1_Sum
  unfold S_fettleref1_Sum
  exact RSum_loop hx hl l.length 0 4294967295#32 rfl ⟨rfl, rfl⟩

/-- Four bytes, the highest first. -/
def sum4 (c : BitVec 32) : List UInt8 := [UInt8.ofNat (c >>> 24).toNat, UInt8.ofNat (c >>> 16).toNat, UInt8.ofNat (c >>> 8).toNat, UInt8.ofNat c.toNat]

theorem e_lit4b (z : Value) (a b c d : UInt8) (K : List Value → Prop) : OP (bldL z 1 4 [(0, bv a), (1, bv b), (2, bv c), (3, bv d)]) K = K [bv a, bv b, bv c, bv d] := e_lit4 z _ _ _ _ _ _ _ _ K
theorem sum_ok {M : Store} {x : Value} {l : List UInt8} (hx : B M x l) (hl : l.length ≤ 2 ^ 26) : R F.fram_sum #[x] M fun v M' => Up M M' ∧ N M M' v (sum4 (crc l)) := by
  apply T_fram_sum
  unfold S_fram_sum
  refine (Sum_ok hx hl).mono fun v M' ⟨e1, e2⟩ => ?_
  subst e1; subst e2
  have h24 := u32_shr (crc l) 24 (by omega)
  have h16 := u32_shr (crc l) 16 (by omega)
  have h8 := u32_shr (crc l) 8 (by omega)
  simp only [Int.cast_ofNat_Int] at h24 h16 h8
  simp only [h24, h16, h8, cv_u8, e_lit4b, ev]
  refine ⟨rfl, Up.push _ _, ?_⟩
  exact Nw.lit (n := 4) (Nat.le_refl _) rfl

end Go.G

namespace Go.G
open Go.Ab Go.Proofs Go.RowKit
set_option linter.unusedVariables false
set_option linter.unusedSimpArgs false

theorem By.up' (M M' : Store) (v : Value) (x : List UInt8) (h : B M v x) (k : Up M M') : B M' v x := Sl.up h k
theorem By.keep' {e : TypeId} (he : Ty.uint8 ≠ e) (M M' : Store) (v : Value) (x : List UInt8) (h : B M v x) (k : Keep e M M') : B M' v x := Sl.keep h he k
/-- A slice of slices of bytes. -/
abbrev BB (M : Store) (v : Value) (ll : List (List UInt8)) : Prop := Ls B Ty.sl_uint8 M v ll

theorem Grow_ok {M : Store} {n : Nat} (hn : n ≤ 2 ^ 26) : R F.slices_Grow_sl_byte_byte #[.slice none 0 0, .int .i64 n] M fun v M' => Up M M' ∧ N M M' v [] := by
  apply T_slices_Grow_sl_byte_byte
  unfold S_slices_Grow_sl_byte_byte
  simp (disch := omega) only [ev, if_neg]
  apply T_slices_Grow_sl_byte_byte_1
  unfold S_slices_Grow_sl_byte_byte_1
  have e1 : capV (.slice none 0 0) = some (.int .i64 0) := rfl
  rw [e1]
  simp (disch := omega) only [ev, w64, Int.sub_self, Int.sub_zero, Int.cast_ofNat_Int]
  split
  · rename_i h0
    have e2 : slV 1 Ty.uint8 (.slice none 0 0) none (some (.int .i64 0)) M = some (.slice none 0 0) := rfl
    have e3 : appZ (.int .u8 0) 1 Ty.uint8 (.slice none 0 0) (.int .i64 n) M = some (.slice (some ⟨M.n, 0, none⟩) n (n + 1), M.push (some (.inl ((zerosOf (.int .u8 0) n).toList, Ty.uint8, true)))) := by
      simp only [appZ, newZ]
      rw [if_pos ⟨by omega, by omega⟩]
      simp only [Option.bind_some, appG, Int.toNat_natCast, Nat.mul_one]
      rw [if_neg (by omega), if_pos (by omega)]
      simp [agrow]
    rw [e2, OP_some, e3, OP2_some]
    have e4 : slV 1 Ty.uint8 (.slice (some ⟨M.n, 0, none⟩) n (n + 1)) none (some (.int .i64 0)) (M.push (some (.inl ((zerosOf (.int .u8 0) n).toList, Ty.uint8, true)))) = some (.slice (some ⟨M.n, 0, none⟩) 0 1) := by
      have : elemOk (M.push (some (.inl ((zerosOf (.int .u8 0) n).toList, Ty.uint8, true)))) (some ⟨M.n, 0, none⟩) Ty.uint8 = true := by
        simp [elemOk, Store.get_push_eq]
      simp only [slV, abound, this]
      have h1 : ¬ (n + 1 = n ∧ 0 = n) := by omega
      have h2 : 0 < n := by omega
      simp [h1, h2, addr_plus]
    simp only [e4, ev]
    refine ⟨rfl, Up.push _ _, ?_⟩
    exact ⟨by simp, .inr ⟨M.n, _, 1, rfl, Nat.le_refl _, Store.get_push_eq _ _, by simp, by simp, .inr rfl⟩⟩
  · exact ⟨rfl, Ch.refl _ _, Nw.nil _ _ _ _⟩

def total (ll : List (List UInt8)) : Nat := (ll.map List.length).sum

theorem Concat_sizes {M : Store} {x : Value} {ll : List (List UInt8)} (hx : BB M x ll) {Q : Value → Store → Prop} (hb : total ll ≤ 2 ^ 26) (hlen : ll.length ≤ 2 ^ 26) : ∀ (d i : Nat), d + i = ll.length → P_slices_Concat_sl_byte_byte_3 x (.int .i64 (total ll : Int)) M Q →
    P_slices_Concat_sl_byte_byte_1 x (.int .i64 (total (ll.take i) : Int)) x (.int .i64 (ll.length : Int)) (.int .i64 (i : Int)) M Q := by
  intro d
  induction d with
  | zero =>
    intro i hi h
    apply T_slices_Concat_sl_byte_byte_1
    unfold S_slices_Concat_sl_byte_byte_1
    simp (disch := omega) only [ev, if_neg]
    rw [List.take_of_length_le (by omega)]; exact h
  | succ d ih =>
    intro i hi h
    apply T_slices_Concat_sl_byte_byte_1
    unfold S_slices_Concat_sl_byte_byte_1
    simp (disch := omega) only [ev, if_pos]
    apply T_slices_Concat_sl_byte_byte_2
    unfold S_slices_Concat_sl_byte_byte_2
    obtain ⟨p, w, h1, h2, h3⟩ := hx.at (i := i) (by omega) .i64
    have hs : total (ll.take (i + 1)) = total (ll.take i) + ll[i].length := by
      have ht : ll.take (i + 1) = ll.take i ++ [ll[i]] := List.take_succ_eq_append_getElem (by omega)
      simp only [total, ht, List.map_append, List.sum_append, List.map_cons, List.map_nil, List.sum_cons, List.sum_nil, Nat.add_zero]
    have hle : total (ll.take (i + 1)) ≤ total ll := by
      have : total ll = total (ll.take (i + 1)) + total (ll.drop (i + 1)) := by
        rw [total, total, total, ← List.sum_append, ← List.map_append, List.take_append_drop]
      omega
    simp only [h1, h2, ev, h3.lenV]
    have e1 : IntKind.wrap .i64 ((total (ll.take i) : Int) + (ll[i].length : Int)) = (total (ll.take (i + 1)) : Int) := by
      rw [w64 (by omega) (by omega), hs]; omega
    rw [e1, if_neg (by omega), w64 (by omega) (by omega)]
    exact ih (i + 1) (by omega) h

theorem Concat_all {M0 : Store} {x : Value} {ll : List (List UInt8)} (hx : BB M0 x ll) {Q : Value → Store → Prop} (hb : total ll ≤ 2 ^ 26) (hlen : ll.length ≤ 2 ^ 26) : ∀ (d i : Nat) (M : Store) (v : Value), d + i = ll.length → Up M0 M → N M0 M v (ll.take i).flatten →
    (∀ v' M', Up M0 M' → N M0 M' v' ll.flatten → Q v' M') →
    P_slices_Concat_sl_byte_byte_4 v x (.int .i64 (ll.length : Int)) (.int .i64 (i : Int)) M Q := by
  intro d
  induction d with
  | zero =>
    intro i M v hi hu h hQ
    apply T_slices_Concat_sl_byte_byte_4
    unfold S_slices_Concat_sl_byte_byte_4
    simp (disch := omega) only [ev, if_neg]
    apply T_slices_Concat_sl_byte_byte_5
    refine ⟨nts_of h.sl, hQ _ _ hu ?_⟩
    rw [List.take_of_length_le (by omega)] at h; exact h
  | succ d ih =>
    intro i M v hi hu h hQ
    apply T_slices_Concat_sl_byte_byte_4
    unfold S_slices_Concat_sl_byte_byte_4
    obtain ⟨p, w, h1, h2, h3⟩ := (hx.up By.up' hu).at (i := i) (by omega) .i64
    have hs : (ll.take (i + 1)).flatten = (ll.take i).flatten ++ ll[i] := by
      have ht : ll.take (i + 1) = ll.take i ++ [ll[i]] := List.take_succ_eq_append_getElem (by omega)
      simp only [ht, List.flatten_append, List.flatten_cons, List.flatten_nil, List.append_nil]
    have hle : (ll.take i).flatten.length + ll[i].length ≤ total ll := by
      have e1 : (ll.take (i + 1)).flatten.length = total (ll.take (i + 1)) := by simp [total, List.length_flatten]
      have : total ll = total (ll.take (i + 1)) + total (ll.drop (i + 1)) := by
        rw [total, total, total, ← List.sum_append, ← List.map_append, List.take_append_drop]
      rw [hs, List.length_append] at e1
      omega
    simp (disch := omega) only [ev, if_pos, h1, h2]
    obtain ⟨v', M', e, hu', hN, _⟩ := NB.app hu h h3 (by omega)
    rw [e, OP2_some]
    simp (disch := omega) only [ev, w64]
    refine ih (i + 1) M' v' (by omega) hu' ?_ hQ
    rw [hs]; exact hN

theorem Concat_ok {M : Store} {x : Value} {ll : List (List UInt8)} (hx : BB M x ll) (hb : total ll ≤ 2 ^ 26) (hlen : ll.length ≤ 2 ^ 26) : R F.slices_Concat_sl_byte_byte #[x] M fun v' M' => Up M M' ∧ N M M' v' ll.flatten := by
  apply T_slices_Concat_sl_byte_byte
  unfold S_slices_Concat_sl_byte_byte
  rw [hx.lenV]
  simp only [ev]
  refine Concat_sizes hx hb hlen ll.length 0 (by omega) ?_
  apply T_slices_Concat_sl_byte_byte_3
  unfold S_slices_Concat_sl_byte_byte_3
  refine (Grow_ok hb).mono fun v1 M1 ⟨hu1, h1⟩ => ?_
  rw [hx.lenV]
  simp only [ev]
  exact Concat_all hx hb hlen ll.length 0 M1 v1 (by omega) hu1 (by simpa using h1) fun v' M' hu' h' => ⟨hu', h'⟩

theorem e_lit3s (z : Value) (a b c : Option Addr) (n1 c1 n2 c2 n3 c3 : Nat) (K : List Value → Prop) : OP (bldL z 1 3 [(0, .slice a n1 c1), (1, .slice b n2 c2), (2, .slice c n3 c3)]) K = K [.slice a n1 c1, .slice b n2 c2, .slice c n3 c3] := by kernel_rfl

/-- A frame. -/
def frm (x : List UInt8) : List UInt8 := be 6 x.length ++ x ++ sum4 (crc (be 6 x.length ++ x))
theorem frm_length (x : List UInt8) : (frm x).length = x.length + 10 := by simp [frm, be_length, sum4]; omega

theorem Put_ok {M : Store} {v x : Value} {l k : List UInt8} (h : B M v l) (hx : B M x k) (hl : l.length ≤ 2 ^ 24) (hk : k.length ≤ 2 ^ 24) :
    R F.fram_Put #[v, x] M fun v' M' => Up M M' ∧ N M M' v' (l ++ frm k) := by
  apply T_fram_Put
  unfold S_fram_Put
  refine (Bytes_ok (l := []) (Sl.nil _ _ _) hx (by simp) hk).mono fun v1 M1 ⟨hu1, h1⟩ => ?_
  simp only [List.nil_append] at h1
  refine (sum_ok h1.by (by simp [be_length]; omega)).mono fun v2 M2 ⟨hu2, h2⟩ => ?_
  obtain ⟨a0, c0, rfl⟩ := h.slice
  obtain ⟨a1, c1, rfl⟩ := h1.sl.slice
  obtain ⟨a2, c2, rfl⟩ := h2.sl.slice
  rw [e_lit3s]
  simp only [ev]
  have hu3 := Up.push M2 (some (.inl ([.slice a0 l.length c0, .slice a1 (be 6 k.length ++ k).length c1, .slice a2 (sum4 (crc (be 6 k.length ++ k))).length c2], Ty.sl_uint8, true)))
  have hBB : BB (M2.push (some (.inl ([.slice a0 l.length c0, .slice a1 (be 6 k.length ++ k).length c1, .slice a2 (sum4 (crc (be 6 k.length ++ k))).length c2], Ty.sl_uint8, true)))) (.slice (some ⟨M2.n, 0, none⟩) 3 3) [l, be 6 k.length ++ k, sum4 (crc (be 6 k.length ++ k))] := by
    refine ⟨_, (Nw.lit (s := 1) (M0 := M2) (n := 3) (Nat.le_refl _) rfl).sl, ?_, ?_, ?_, trivial⟩
    · exact Sl.up (Sl.up (Sl.up h hu1) hu2) hu3
    · exact Sl.up (Sl.up h1.by hu2) hu3
    · exact Sl.up h2.by hu3
  refine (Concat_ok hBB (by simp [total, be_length, sum4]; omega) (by simp)).mono fun v4 M4 ⟨hu4, h4⟩ => ?_
  have hu : Up M M4 := ((hu1.trans hu2).trans hu3).trans hu4
  refine ⟨nts_of h4.sl, hu, ?_⟩
  have := h4.base ((hu1.trans hu2).trans hu3).n
  simpa [N, NB, frm] using this

theorem RPut_ok {M : Store} {v x : Value} {l k : List UInt8} (h : B M v l) (hx : B M x k) (hl : l.length ≤ 2 ^ 24) (hk : k.length ≤ 2 ^ 24) :
    R F.fettleref1_Put #[v, x] M fun v' M' => Up M M' ∧ N M M' v' (l ++ frm k) := by
  apply T_fettleref1_Put
  unfold S_fettleref1_Put
  refine (RBytes_ok (l := []) (Sl.nil _ _ _) hx (by simp) hk).mono fun v1 M1 ⟨hu1, h1⟩ => ?_
  simp only [List.nil_append] at h1
  refine (RSum_ok h1.by (by simp [be_length]; omega)).mono fun v2 M2 ⟨e2, e3⟩ => ?_
  subst e2; subst e3
  simp only [ev]
  refine copy0 (Sl.up h hu1) hl fun v3 M3 hu3 h3 => ?_
  obtain ⟨v4, M4, e4, hu4, h4, _⟩ := NB.app hu3 h3 (Sl.up h1.by hu3) (by simp [be_length]; omega)
  rw [e4, OP2_some]
  have h24 := u32_shr (crc (be 6 k.length ++ k)) 24 (by omega)
  have h16 := u32_shr (crc (be 6 k.length ++ k)) 16 (by omega)
  have h8 := u32_shr (crc (be 6 k.length ++ k)) 8 (by omega)
  simp only [Int.cast_ofNat_Int] at h24 h16 h8
  simp only [h24, h16, h8, cv_u8, e_lit4b, ev]
  have h5 : N M2 (M4.push (some (.inl ([bv (UInt8.ofNat (crc (be 6 k.length ++ k) >>> 24).toNat), bv (UInt8.ofNat (crc (be 6 k.length ++ k) >>> 16).toNat), bv (UInt8.ofNat (crc (be 6 k.length ++ k) >>> 8).toNat), bv (UInt8.ofNat (crc (be 6 k.length ++ k)).toNat)], Ty.uint8, true)))) (.slice (some ⟨M4.n, 0, none⟩) 4 4) (sum4 (crc (be 6 k.length ++ k))) :=
    Nw.lit (n := 4) hu4.le rfl
  obtain ⟨v6, M6, e6, hu6, h6, _⟩ := NB.app (hu4.push' _) (Nw.up h4 (Up.push M4 _)) h5.by (by simp [be_length, sum4]; omega)
  rw [e6, OP2_some]
  refine ⟨nts_of h6.sl, hu1.trans hu6, ?_⟩
  have := h6.base hu1.n
  simpa [N, NB, frm] using this

theorem bytes_cells : ∀ l : List UInt8, bytesOfCells (l.map bv) = some l
  | [] => rfl
  | x :: l => by
    show bytesOfCells (.int .u8 (x.toNat : Int) :: l.map bv) = _
    rw [bytesOfCells, bytes_cells l]
    simp
theorem cvBS_ok {M : Store} {v : Value} {l : List UInt8} (h : B M v l) : cvBS v M = some (.string ⟨l.toArray⟩) := by
  obtain ⟨h1, a, c, rfl, h3, h4⟩ := h
  by_cases hn : l.length = 0
  · have : l = [] := List.length_eq_zero_iff.1 hn
    subst this
    cases a with
    | none => rfl
    | some x => obtain ⟨b, o, sp⟩ := x; have := h3 _ rfl; simp only at this; subst this; rfl
  · obtain ⟨b, o, cells, e', own, rfl, h6, h7, h8, h9⟩ := h4 (by omega)
    simp only [cvBS, if_neg hn]
    rw [row_of h6 (by simpa using h8)]
    rw [Nat.mul_one] at h9
    rw [h9, Option.bind_some, bytes_cells]; rfl
theorem str_neq (l k : List UInt8) (K : Value → Prop) : OP (binS .neq (.string ⟨l.toArray⟩) (.string ⟨k.toArray⟩)) K = K (.bool (decide (l ≠ k))) := by
  have h : binS .neq (.string ⟨l.toArray⟩) (.string ⟨k.toArray⟩) = some (.bool (!((⟨l.toArray⟩ : ByteArray).toList == (⟨k.toArray⟩ : ByteArray).toList))) := rfl
  rw [h, OP_some, ByteArray.toList_mk, ByteArray.toList_mk]
  congr 2
  by_cases e : l = k <;> simp [e]
theorem str_eql (l k : List UInt8) (K : Value → Prop) : OP (binS .eql (.string ⟨l.toArray⟩) (.string ⟨k.toArray⟩)) K = K (.bool (decide (l = k))) := by
  have h : binS .eql (.string ⟨l.toArray⟩) (.string ⟨k.toArray⟩) = some (.bool ((⟨l.toArray⟩ : ByteArray).toList == (⟨k.toArray⟩ : ByteArray).toList)) := rfl
  rw [h, OP_some, ByteArray.toList_mk, ByteArray.toList_mk]
  congr 2
  by_cases e : l = k <;> simp [e]

theorem Same_loop {M : Store} {x y : Value} {ll kk : List (List UInt8)} (hx : BB M x ll) (hy : BB M y kk) (hle : ll.length ≤ 2 ^ 26) (hlen : ll.length = kk.length) {Q : Value → Store → Prop} : ∀ (d i : Nat), d + i = ll.length → Q (.bool (decide (ll.drop i = kk.drop i))) M →
    P_fettleref1_SameRows_1 x y (.int .i64 (i : Int)) M Q := by
  intro d
  induction d with
  | zero =>
    intro i hi h
    apply T_fettleref1_SameRows_1
    unfold S_fettleref1_SameRows_1
    rw [hx.lenV]
    simp (disch := omega) only [ev, if_neg]
    apply T_fettleref1_SameRows_3
    rw [List.drop_of_length_le (by omega), List.drop_of_length_le (by omega)] at h
    exact ⟨rfl, h⟩
  | succ d ih =>
    intro i hi h
    apply T_fettleref1_SameRows_1
    unfold S_fettleref1_SameRows_1
    rw [hx.lenV]
    simp (disch := omega) only [ev, if_pos]
    apply T_fettleref1_SameRows_2
    unfold S_fettleref1_SameRows_2
    obtain ⟨p, w, h1, h2, h3⟩ := hx.at (i := i) (by omega) .i64
    obtain ⟨q, u, h4, h5, h6⟩ := hy.at (i := i) (by omega) .i64
    simp only [h1, h2, h4, h5, cvBS_ok h3, cvBS_ok h6, ev, str_neq]
    have e1 : ll.drop i = ll[i] :: ll.drop (i + 1) := List.drop_eq_getElem_cons (by omega)
    have e2 : kk.drop i = kk[i] :: kk.drop (i + 1) := List.drop_eq_getElem_cons (by omega)
    split
    · rename_i hne
      refine ⟨rfl, ?_⟩
      have : ¬ (ll.drop i = kk.drop i) := by rw [e1, e2]; intro e; injection e with e _; exact hne e
      rw [decide_eq_false this] at h; exact h
    · rename_i hne
      have heq : ll[i] = kk[i] := Classical.not_not.1 hne
      rw [w64 (by omega) (by omega)]
      refine ih (i + 1) (by omega) ?_
      have : (ll.drop i = kk.drop i) = (ll.drop (i + 1) = kk.drop (i + 1)) := by rw [e1, e2, heq, List.cons.injEq]; simp only [true_and]
      simp only [this] at h; exact h

theorem Same_ok {M : Store} {x y : Value} {ll kk : List (List UInt8)} (hx : BB M x ll) (hy : BB M y kk) (h1 : ll.length ≤ 2 ^ 26) (h2 : kk.length ≤ 2 ^ 26) : R F.fettleref1_SameRows #[x, y] M fun v M' => M' = M ∧ v = .bool (decide (ll = kk)) := by
  apply T_fettleref1_SameRows
  unfold S_fettleref1_SameRows
  rw [hx.lenV, hy.lenV]
  simp only [ev]
  split
  · rename_i h
    refine ⟨rfl, trivial, ?_⟩
    have : ll ≠ kk := fun e => h (by rw [e])
    simp [this]
  · rename_i h
    exact Same_loop hx hy h1 (by omega) ll.length 0 rfl ⟨rfl, rfl⟩

def frames : List (List UInt8) → List UInt8
  | [] => []
  | x :: r => frm x ++ frames r
theorem frames_append (a b : List (List UInt8)) : frames (a ++ b) = frames a ++ frames b := by
  induction a with
  | nil => rfl
  | cons x a ih => simp [frames, ih]
theorem frames_length (a : List (List UInt8)) : (frames a).length = total a + 10 * a.length := by
  induction a with
  | nil => rfl
  | cons x a ih => simp only [frames, List.length_append, frm_length, ih, total, List.map_cons, List.sum_cons, List.length_cons]; omega

theorem Frames_loop {M0 : Store} {x : Value} {ll : List (List UInt8)} (hx : BB M0 x ll) (ht : total ll ≤ 2 ^ 22) {Q : Value → Store → Prop} : ∀ (d i : Nat) (M : Store) (v : Value), d + i = min ll.length 10 → Up M0 M → N M0 M v (frames (ll.take i)) →
    (∀ v' M', Up M0 M' → N M0 M' v' (frames (ll.take 10)) → Q v' M') → P_fettlelaw3_Frames_1 x v (.int .i64 (i : Int)) M Q := by
  intro d
  induction d with
  | zero =>
    intro i M v hi hu h hQ
    apply T_fettlelaw3_Frames_1
    unfold S_fettlelaw3_Frames_1
    rw [hx.lenV]
    have he : ll.take i = ll.take 10 := by
      rcases Nat.le_total ll.length 10 with h | h
      · rw [List.take_of_length_le (by omega), List.take_of_length_le (by omega)]
      · congr 1; omega
    rw [he] at h
    by_cases hlt : i < ll.length
    · simp (disch := omega) only [ev, if_neg, if_pos]
      apply T_fettlelaw3_Frames_2
      exact ⟨nts_of h.sl, hQ _ _ hu h⟩
    · simp (disch := omega) only [ev, if_neg]
      apply T_fettlelaw3_Frames_2
      exact ⟨nts_of h.sl, hQ _ _ hu h⟩
  | succ d ih =>
    intro i M v hi hu h hQ
    apply T_fettlelaw3_Frames_1
    unfold S_fettlelaw3_Frames_1
    rw [hx.lenV]
    obtain ⟨p, w, h1, h2, h3⟩ := (hx.up By.up' hu).at (i := i) (by omega) .i64
    simp (disch := omega) only [ev, if_pos, h1, h2]
    have hs : ll.take (i + 1) = ll.take i ++ [ll[i]] := List.take_succ_eq_append_getElem (by omega)
    have hle : total (ll.take i) + ll[i].length ≤ total ll := by
      have h1 : total ll = total (ll.take (i + 1)) + total (ll.drop (i + 1)) := by
        rw [total, total, total, ← List.sum_append, ← List.map_append, List.take_append_drop]
      have h2 : total (ll.take (i + 1)) = total (ll.take i) + ll[i].length := by
        simp only [total, hs, List.map_append, List.sum_append, List.map_cons, List.map_nil, List.sum_cons, List.sum_nil, Nat.add_zero]
      omega
    have hfl := frames_length (ll.take i)
    have htl : (ll.take i).length ≤ 10 := by simp; omega
    refine (RPut_ok h.by h3 (by omega) (by omega)).mono fun v1 M1 ⟨hu1, hv1⟩ => ?_
    rw [w64 (by omega) (by omega)]
    refine ih (i + 1) M1 v1 (by omega) (hu.trans hu1) ?_ hQ
    rw [hs, frames_append]
    have := hv1.base hu.n
    simpa [frames, N, NB] using this

theorem Frames_ok {M : Store} {x : Value} {ll : List (List UInt8)} (hx : BB M x ll) (ht : total ll ≤ 2 ^ 22) : R F.fettlelaw3_Frames #[x] M fun v' M' => Up M M' ∧ N M M' v' (frames (ll.take 10)) := by
  apply T_fettlelaw3_Frames
  unfold S_fettlelaw3_Frames
  exact Frames_loop hx ht (min ll.length 10) 0 M _ (by omega) (Ch.refl _ _) (Nw.nil _ _ _ _) fun v' M' hu h => ⟨hu, h⟩

end Go.G

namespace Go.G
open Go.Ab Go.Proofs Go.RowKit
set_option linter.unusedVariables false
set_option linter.unusedSimpArgs false

theorem R.cps {f : FuncId} {args : Array Value} {M : Store} {S : Value → Store → Prop} (h : ∀ Q : Value → Store → Prop, (∀ v M', S v M' → Q v M') → R f args M Q) : R f args M S := h S fun _ _ h => h

def numOf (l : List UInt8) : Nat := l.foldl (fun n c => n * 256 + c.toNat) 0
/-- The next number, and what is left. -/
def rdNum (top : Nat) (l : List UInt8) (bad : Bool) : Option (Nat × List UInt8) :=
  if bad = true ∨ l.length < 6 then none else if numOf (l.take 6) > top then none else some (numOf (l.take 6), l.drop 6)
/-- The next bytes, and what is left. -/
def rdBytes (top : Nat) (l : List UInt8) (bad : Bool) : Option (List UInt8 × List UInt8) :=
  (rdNum top l bad).bind fun p => if p.1 > p.2.length then none else some (p.2.take p.1, p.2.drop p.1)

/-- A reader. -/
def Rd (T : TypeId) (M : Store) (b : Nat) (l : List UInt8) (bad : Bool) : Prop := ∃ w, Ob M b [w, .bool bad] T ∧ B M w l
theorem Rd.up {T M M' b l bad} (h : Rd T M b l bad) (k : Up M M') : Rd T M' b l bad := by
  obtain ⟨w, h1, h2⟩ := h; exact ⟨w, h1.up k, Sl.up h2 k⟩
theorem numOf_step (l : List UInt8) (c : UInt8) : numOf (l ++ [c]) = numOf l * 256 + c.toNat := by simp [numOf]
theorem numOf_lt (l : List UInt8) : numOf l < 256 ^ l.length := by
  have : ∀ (l : List UInt8) (n k : Nat), n < 256 ^ k → l.foldl (fun n c => n * 256 + c.toNat) n < 256 ^ (k + l.length) := by
    intro l
    induction l with
    | nil => intro n k h; exact h
    | cons c l ih =>
      intro n k h
      rw [List.foldl_cons, List.length_cons, show k + (l.length + 1) = (k + 1) + l.length by omega]
      refine ih _ _ ?_
      have := c.toNat_lt
      rw [Nat.pow_succ]; omega
  have := this l 0 0 (by simp)
  simpa [numOf] using this

theorem ne_rd : Ty.uint8 ≠ Ty.code_Reader := by decide
theorem ne_rrd : Ty.uint8 ≠ Ty.fettleref1_Reader := by decide

theorem B.set {M : Store} {b : Nat} {cells : List Value} {T : TypeId} (hb : Ob M b cells T) (hT : Ty.uint8 ≠ T) (c' : List Value) {w : Value} {l : List UInt8} (h : B M w l) : B (M.set b (some (.inl (c', T, true)))) w l :=
  Sl.keep h hT ((Ch.setO hb _).keepT hb)

/-- One step of a number that is read. -/
theorem shl_or {n : Nat} (hn : n < 256 ^ 5) (c : UInt8) (K : Value → Prop) : (OP (binI .shl (.int .i64 (n : Int)) (.int .u64 8)) fun t33 => OP (cvI .i64 (bv c)) fun t35 => OP (binI .or t33 t35) K) = K (.int .i64 ((n * 256 + c.toNat : Nat) : Int)) := by
  have hc := c.toNat_lt
  rw [e_shl (by omega)]
  unfold bv
  rw [e_cvI]
  have e1 : min (Int.toNat 8) (IntKind.bits .i64) = 8 := rfl
  have e2 : IntKind.wrap .i64 ((n : Int) * 2 ^ (min (Int.toNat 8) (IntKind.bits .i64))) = ((n * 2 ^ 8 : Nat) : Int) := by
    rw [e1, w64] <;> omega
  have e3 : IntKind.wrap .i64 (c.toNat : Int) = (c.toNat : Int) := w64 (by omega) (by omega)
  rw [e2, e3, or_add hc (by omega) (by omega), OP_some]

theorem fail_ok {M : Store} {b : Nat} {w : Value} {bad : Bool} (h : Ob M b [w, .bool bad] Ty.code_Reader) : R F.code_Reader_fail #[.pointer (some ⟨b, 0, none⟩)] M fun v M' => v = .tuple #[] ∧ Ch [b] M M' ∧ Rd Ty.code_Reader M' b [] true := by
  refine R.cps fun Q hQ => ?_
  apply T_code_Reader_fail
  unfold S_code_Reader_fail
  have h1 := h.setSt ([w, .bool bad].set 0 (.slice none 0 0))
  simp only [ev, Nat.zero_add]
  rw [h.st (o := 0) (by simp) rfl rfl, OP_some, h1.st (o := 1) (by simp) rfl rfl, OP_some]
  exact ⟨rfl, hQ _ _ ⟨rfl, (Ch.setO h _).trans (Ch.setO h1 _), .slice none 0 0, h1.setSt _, Sl.nil _ _ _⟩⟩

theorem num_loop {M : Store} {x0 w : Value} {l : List UInt8} (hw : B M w l) (hl : l.length = 6) {top : Int} {Q : Value → Store → Prop} : ∀ (d i : Nat), d + i = 6 → P_code_Reader_Num_2 x0 (.int .i64 top) (.int .i64 (numOf l : Int)) M Q →
    P_code_Reader_Num_1 x0 (.int .i64 top) (.int .i64 (numOf (l.take i) : Int)) w (.int .i64 6) (.int .i64 (i : Int)) M Q := by
  intro d
  induction d with
  | zero =>
    intro i hi h
    apply T_code_Reader_Num_1
    unfold S_code_Reader_Num_1
    simp (disch := omega) only [ev, if_neg]
    rw [List.take_of_length_le (by omega)]; exact h
  | succ d ih =>
    intro i hi h
    apply T_code_Reader_Num_1
    unfold S_code_Reader_Num_1
    obtain ⟨p, h1, h2⟩ := By.at hw (i := i) (by omega) .i64
    have hlt := numOf_lt (l.take i)
    have hle : (l.take i).length ≤ 5 := by simp; omega
    have hp : 256 ^ (l.take i).length ≤ 256 ^ 5 := Nat.pow_le_pow_right (by omega) hle
    have ht : l.take (i + 1) = l.take i ++ [l[i]] := List.take_succ_eq_append_getElem (by omega)
    have hs := numOf_step (l.take i) l[i]
    rw [← ht] at hs
    simp (disch := omega) only [ev, if_pos, h1, h2]
    rw [shl_or (by omega), ← hs, w64 (by omega) (by omega)]
    exact ih (i + 1) (by omega) h

theorem rNum_ok {M : Store} {b : Nat} {l : List UInt8} {bad : Bool} {top : Nat} (h : Rd Ty.code_Reader M b l bad) (ht : top ≤ 2 ^ 40) (hl : l.length ≤ 2 ^ 24) :
    R F.code_Reader_Num #[.pointer (some ⟨b, 0, none⟩), .int .i64 top] M fun v M' => Ch [b] M M' ∧ match rdNum top l bad with
      | some (n, r) => v = .int .i64 n ∧ Rd Ty.code_Reader M' b r false
      | none => v = .int .i64 0 ∧ Rd Ty.code_Reader M' b [] true := by
  obtain ⟨w, hb, hw⟩ := h
  refine R.cps fun Q hQ => ?_
  have hfail : rdNum top l bad = none → R F.code_Reader_fail #[.pointer (some ⟨b, 0, none⟩)] M fun t21 M1 => NTs [.int .i64 0] ∧ Q (.int .i64 0) M1 :=
    fun hr => (fail_ok hb).mono fun v M' ⟨_, h1, h2⟩ => ⟨rfl, hQ _ _ ⟨h1, by rw [hr]; exact ⟨rfl, h2⟩⟩⟩
  apply T_code_Reader_Num
  unfold S_code_Reader_Num
  have e0 := hb.ld (o := 0) rfl
  have e1 := hb.ld (o := 1) rfl
  simp only [ev, Nat.zero_add, e0, e1]
  cases bad with
  | true =>
    simp only [ev]
    exact hfail (by simp [rdNum])
  | false =>
    simp only [ev, hw.lenV]
    by_cases h6 : l.length < 6
    · rw [if_pos (by omega)]
      exact hfail (by simp [rdNum, h6])
    · rw [if_neg (by omega)]
      obtain ⟨u, e2, hu⟩ := By.cut hw (lo := none) (hi := some (.int .i64 6)) (a := 0) (r := 6) (abound_some (by omega) (by omega)) rfl (by omega) (by omega)
      rw [List.drop_zero] at hu
      have hl6 : (l.take 6).length = 6 := by simp; omega
      simp only [e2, ev, hu.lenV]
      rw [hl6]
      refine num_loop (x0 := .pointer (some ⟨b, 0, none⟩)) (top := (top : Int)) hu hl6 6 0 rfl ?_
      apply T_code_Reader_Num_2
      unfold S_code_Reader_Num_2
      by_cases hgt : numOf (l.take 6) > top
      · simp (disch := omega) only [ev, if_pos]
        exact hfail (by simp [rdNum, h6, hgt])
      · obtain ⟨u2, e4, hu2⟩ := By.cut hw (lo := some (.int .i64 6)) (hi := none) (a := 6) (r := l.length) rfl (abound_some (by omega) (by omega)) (by omega) (by omega)
        obtain ⟨a, c, rfl⟩ := hu2.slice
        simp (disch := omega) only [ev, if_neg, Nat.zero_add, e0, e4]
        rw [hb.st (o := 0) (by simp) rfl rfl, OP_some]
        have hr : rdNum top l false = some (numOf (l.take 6), l.drop 6) := by simp [rdNum, h6, hgt]
        refine ⟨rfl, hQ _ _ ⟨Ch.setO hb _, ?_⟩⟩
        rw [hr]
        refine ⟨rfl, _, hb.setSt _, B.set hb ne_rd _ ?_⟩
        simpa using hu2

theorem rBytesN_ok {M : Store} {b : Nat} {l : List UInt8} {bad : Bool} {top : Nat} (h : Rd Ty.code_Reader M b l bad) (ht : top ≤ 2 ^ 40) (hl : l.length ≤ 2 ^ 24) :
    R F.code_Reader_Bytes #[.pointer (some ⟨b, 0, none⟩), .int .i64 top] M fun v M' => Ch [b] M M' ∧ match rdBytes top l bad with
      | some (x, r) => N M M' v x ∧ Rd Ty.code_Reader M' b r false
      | none => N M M' v [] ∧ Rd Ty.code_Reader M' b [] true := by
  refine R.cps fun Q hQ => ?_
  apply T_code_Reader_Bytes
  unfold S_code_Reader_Bytes
  refine (rNum_ok h ht hl).mono fun v1 M1 ⟨hc1, h1⟩ => ?_
  have main : ∀ (n : Nat) (r : List UInt8) (bd : Bool), v1 = .int .i64 n → Rd Ty.code_Reader M1 b r bd → r.length ≤ 2 ^ 24 → n ≤ r.length →
      (∀ v' M', Ch [b] M M' → N M M' v' (r.take n) → Rd Ty.code_Reader M' b (r.drop n) bd → Q v' M') →
      OP (nilc (.pointer (some ⟨b, 0, none⟩))) fun t12 => OP (fad 0 t12) fun t13 => OP (ld 1 false t13 M1) fun t14 => OP (lenV t14) fun t15 => OP (binI .gtr v1 t15) fun t16 => BR t16
        (R F.code_Reader_fail #[.pointer (some ⟨b, 0, none⟩)] M1 fun t18 M2 => NTs [.slice none 0 0] ∧ Q (.slice none 0 0) M2)
        (OP (nilc (.pointer (some ⟨b, 0, none⟩))) fun t20 => OP (fad 0 t20) fun t21 => OP (ld 1 false t21 M1) fun t22 => OP (slV 1 Ty.uint8 t22 none (some v1) M1) fun t24 =>
          R F.slices_Clone_sl_byte_byte #[t24] M1 fun t25 M3 => OP (nilc (.pointer (some ⟨b, 0, none⟩))) fun t28 => OP (fad 0 t28) fun t29 => OP (ld 1 false t29 M3) fun t30 => OP (slV 1 Ty.uint8 t30 (some v1) none M3) fun t32 =>
          OP (nilc (.pointer (some ⟨b, 0, none⟩))) fun t33 => OP (fad 0 t33) fun t34 => OP (st 1 t34 t32 M3) fun M4 => NTs [t25] ∧ Q t25 M4) := by
    rintro n r bd rfl ⟨w, hb, hw⟩ hr hn hQ
    have e0 := hb.ld (o := 0) rfl
    simp (disch := omega) only [ev, Nat.zero_add, e0, hw.lenV, if_neg]
    obtain ⟨u, e2, hu⟩ := By.cut hw (lo := none) (hi := some (.int .i64 n)) (a := 0) (r := n) (by simpa using abound_some (k := .i64) (d := r.length) (i := (n : Int)) (y := r.length) (by omega) (by omega)) rfl (by omega) (by omega)
    rw [List.drop_zero] at hu
    simp only [e2, ev]
    refine (Clone_ok hu (by simp; omega)).mono fun v3 M3 ⟨hu3, h3⟩ => ?_
    have hb3 := hb.up hu3
    have e3 := hb3.ld (o := 0) rfl
    obtain ⟨u2, e4, hu2⟩ := By.cut (Sl.up hw hu3) (lo := some (.int .i64 n)) (hi := none) (a := n) (r := r.length) rfl (by simpa using abound_some (i := (n : Int)) (y := r.length) (d := 0) (k := .i64) (by omega) (by omega)) (by omega) (by omega)
    rw [List.take_length] at hu2
    obtain ⟨a, c, rfl⟩ := hu2.slice
    simp only [ev, Nat.zero_add, e3, e4]
    rw [hb3.st (o := 0) (by simp) rfl rfl, OP_some]
    refine ⟨nts_of h3.sl, hQ _ _ ?_ ?_ ?_⟩
    · exact (hc1.up hu3).trans (Ch.setO hb3 _)
    · exact Nw.keep (h3.base hc1.n) ne_rd ((Ch.setO hb3 _).keepT hb3)
    · exact ⟨_, hb3.setSt _, B.set hb3 ne_rd _ hu2⟩
  cases hnum : rdNum top l bad with
  | none =>
    rw [hnum] at h1
    refine main 0 [] true h1.1 h1.2 (by simp) (by simp) fun v' M' hc hv hr => hQ _ _ ⟨hc, ?_⟩
    simp only [rdBytes, hnum, Option.bind_none]
    exact ⟨by simpa using hv, by simpa using hr⟩
  | some p =>
    obtain ⟨n, r⟩ := p
    rw [hnum] at h1
    obtain ⟨rfl, hR⟩ := h1
    have hrl : r.length ≤ 2 ^ 24 := by
      simp only [rdNum] at hnum
      split at hnum
      · cases hnum
      · split at hnum
        · cases hnum
        · simp only [Option.some.injEq, Prod.mk.injEq] at hnum
          obtain ⟨_, rfl⟩ := hnum; simp; omega
    by_cases hn : n ≤ r.length
    · refine main n r false rfl hR hrl hn fun v' M' hc hv hr => hQ _ _ ⟨hc, ?_⟩
      simp only [rdBytes, hnum, Option.bind_some]
      rw [if_neg (by omega)]
      exact ⟨hv, hr⟩
    · obtain ⟨w, hb, hw⟩ := hR
      have e0 := hb.ld (o := 0) rfl
      simp (disch := omega) only [ev, Nat.zero_add, e0, hw.lenV, if_pos]
      refine (fail_ok hb).mono fun v' M' ⟨_, h2, h3⟩ => ⟨rfl, hQ _ _ ⟨hc1.trans h2, ?_⟩⟩
      simp only [rdBytes, hnum, Option.bind_some]
      rw [if_pos (by omega)]
      exact ⟨Nw.nil _ _ _ _, h3⟩

theorem rBytes_ok {M : Store} {b : Nat} {l : List UInt8} {bad : Bool} {top : Nat} (h : Rd Ty.code_Reader M b l bad) (ht : top ≤ 2 ^ 40) (hl : l.length ≤ 2 ^ 24) :
    R F.code_Reader_Bytes #[.pointer (some ⟨b, 0, none⟩), .int .i64 top] M fun v M' => Ch [b] M M' ∧ match rdBytes top l bad with
      | some (x, r) => B M' v x ∧ Rd Ty.code_Reader M' b r false
      | none => B M' v [] ∧ Rd Ty.code_Reader M' b [] true := by
  refine (rBytesN_ok h ht hl).mono fun v M' ⟨hc, h1⟩ => ⟨hc, ?_⟩
  split at h1
  · exact ⟨h1.1.by, h1.2⟩
  · exact ⟨h1.1.by, h1.2⟩

theorem Ok_ok {M : Store} {b : Nat} {l : List UInt8} {bad : Bool} (h : Rd Ty.code_Reader M b l bad) : R F.code_Reader_Ok #[.pointer (some ⟨b, 0, none⟩)] M fun v M' => M' = M ∧ v = .bool (!bad) := by
  obtain ⟨w, hb, hw⟩ := h
  refine R.cps fun Q hQ => ?_
  apply T_code_Reader_Ok
  unfold S_code_Reader_Ok
  have e1 := hb.ld (o := 1) rfl
  simp only [ev, Nat.zero_add, e1]
  exact ⟨rfl, hQ _ _ ⟨rfl, rfl⟩⟩

theorem Read_ok {M : Store} {v : Value} {l : List UInt8} (h : B M v l) (hl : l.length ≤ 2 ^ 24) : R F.code_Read #[v] M fun r M' => Up M M' ∧ ∃ b, r = .pointer (some ⟨b, 0, none⟩) ∧ M.n ≤ b ∧ Rd Ty.code_Reader M' b l false := by
  refine R.cps fun Q hQ => ?_
  apply T_code_Read
  unfold S_code_Read
  refine (Clone_ok h hl).mono fun v1 M1 ⟨hu1, h1⟩ => ?_
  obtain ⟨a, c, rfl⟩ := h1.sl.slice
  have e1 : bldS #[.slice none 0 0, .bool false] [(0, 1), (1, 1)] [(0, .slice a l.length c)] = some (.agg #[.slice a l.length c, .bool false]) := by kernel_rfl
  have e2 : boxv (.agg #[.slice a l.length c, .bool false]) = some [.slice a l.length c, .bool false] := by kernel_rfl
  simp only [e1, e2, ev]
  exact ⟨rfl, hQ _ _ ⟨hu1.push' _, M1.n, rfl, hu1.n, _, Ob.new _ _ _, Sl.up h1.by (Up.push _ _)⟩⟩

end Go.G

namespace Go.G
open Go.Ab Go.Proofs Go.RowKit
set_option linter.unusedVariables false
set_option linter.unusedSimpArgs false

theorem rnum_loop {M : Store} {b : Nat} {w : Value} {l : List UInt8} (hb : Ob M b [w, .bool false] Ty.fettleref1_Reader) (hw : B M w l) (hl : 6 ≤ l.length) {top : Int} {Q : Value → Store → Prop} : ∀ (d i : Nat), d + i = 6 →
    P_fettleref1_Reader_Num_3 (.pointer (some ⟨b, 0, none⟩)) (.int .i64 top) (.int .i64 (numOf (l.take 6) : Int)) M Q →
    P_fettleref1_Reader_Num_1 (.pointer (some ⟨b, 0, none⟩)) (.int .i64 top) (.int .i64 (numOf (l.take i) : Int)) (.int .i64 (i : Int)) M Q := by
  intro d
  induction d with
  | zero =>
    intro i hi h
    apply T_fettleref1_Reader_Num_1
    unfold S_fettleref1_Reader_Num_1
    simp (disch := omega) only [ev, if_neg]
    obtain rfl : i = 6 := by omega
    exact h
  | succ d ih =>
    intro i hi h
    apply T_fettleref1_Reader_Num_1
    unfold S_fettleref1_Reader_Num_1
    simp (disch := omega) only [ev, if_pos]
    apply T_fettleref1_Reader_Num_2
    unfold S_fettleref1_Reader_Num_2
    obtain ⟨p, h1, h2⟩ := By.at hw (i := i) (by omega) .i64
    have hlt := numOf_lt (l.take i)
    have hle : (l.take i).length ≤ 5 := by simp; omega
    have hp : 256 ^ (l.take i).length ≤ 256 ^ 5 := Nat.pow_le_pow_right (by omega) hle
    have ht : l.take (i + 1) = l.take i ++ [l[i]] := List.take_succ_eq_append_getElem (by omega)
    have hs := numOf_step (l.take i) l[i]
    rw [← ht] at hs
    have e0 := hb.ld (o := 0) rfl
    have hc := (l[i]).toNat_lt
    rw [e_shl (by omega)]
    have e1 : min (Int.toNat 8) (IntKind.bits .i64) = 8 := rfl
    have e2 : IntKind.wrap .i64 ((numOf (l.take i) : Int) * 2 ^ (min (Int.toNat 8) (IntKind.bits .i64))) = ((numOf (l.take i) * 2 ^ 8 : Nat) : Int) := by
      rw [e1, w64] <;> omega
    have e3 : IntKind.wrap .i64 ((l[i]).toNat : Int) = ((l[i]).toNat : Int) := w64 (by omega) (by omega)
    simp only [ev, Nat.zero_add, e0, h1, h2, e2]
    unfold bv
    rw [e_cvI, e3, or_add hc (by omega) (by omega), OP_some]
    have e4 : numOf (l.take i) * 2 ^ 8 + (l[i]).toNat = numOf (l.take (i + 1)) := by rw [hs]
    rw [e4, w64 (by omega) (by omega)]
    exact ih (i + 1) (by omega) h

theorem rrNum_ok {M : Store} {b : Nat} {l : List UInt8} {bad : Bool} {top : Nat} (h : Rd Ty.fettleref1_Reader M b l bad) (ht : top ≤ 2 ^ 40) (hl : l.length ≤ 2 ^ 24) :
    R F.fettleref1_Reader_Num #[.pointer (some ⟨b, 0, none⟩), .int .i64 top] M fun v M' => Ch [b] M M' ∧ match rdNum top l bad with
      | some (n, r) => v = .int .i64 n ∧ Rd Ty.fettleref1_Reader M' b r false
      | none => v = .int .i64 0 ∧ Rd Ty.fettleref1_Reader M' b l true := by
  obtain ⟨w, hb, hw⟩ := h
  refine R.cps fun Q hQ => ?_
  have hfail : ∀ bd, Ob M b [w, .bool bd] Ty.fettleref1_Reader → rdNum top l bad = none → OP (st 1 (.pointer (some ⟨b, 1, none⟩)) (.bool true) M) fun M1 => NTs [.int .i64 0] ∧ Q (.int .i64 0) M1 := by
    intro bd hb hr
    rw [hb.st (o := 1) (by simp) rfl rfl, OP_some]
    refine ⟨rfl, hQ _ _ ⟨Ch.setO hb _, ?_⟩⟩
    rw [hr]
    exact ⟨rfl, w, hb.setSt _, B.set hb ne_rrd _ hw⟩
  apply T_fettleref1_Reader_Num
  unfold S_fettleref1_Reader_Num
  have e0 := hb.ld (o := 0) rfl
  have e1 := hb.ld (o := 1) rfl
  simp only [ev, Nat.zero_add, e0, e1]
  cases bad with
  | true =>
    simp only [ev]
    exact hfail _ hb (by simp [rdNum])
  | false =>
    simp only [ev, hw.lenV]
    by_cases h6 : l.length < 6
    · rw [if_pos (by omega)]
      exact hfail _ hb (by simp [rdNum, h6])
    · rw [if_neg (by omega)]
      refine rnum_loop (top := (top : Int)) hb hw (by omega) 6 0 rfl ?_
      apply T_fettleref1_Reader_Num_3
      unfold S_fettleref1_Reader_Num_3
      by_cases hgt : numOf (l.take 6) > top
      · simp (disch := omega) only [ev, if_pos]
        exact hfail _ hb (by simp [rdNum, h6, hgt])
      · obtain ⟨u2, e4, hu2⟩ := By.cut hw (lo := some (.int .i64 6)) (hi := none) (a := 6) (r := l.length) rfl (abound_some (by omega) (by omega)) (by omega) (by omega)
        obtain ⟨a, c, rfl⟩ := hu2.slice
        simp (disch := omega) only [ev, if_neg, Nat.zero_add, e0, e4]
        rw [hb.st (o := 0) (by simp) rfl rfl, OP_some]
        have hr : rdNum top l false = some (numOf (l.take 6), l.drop 6) := by simp [rdNum, h6, hgt]
        refine ⟨rfl, hQ _ _ ⟨Ch.setO hb _, ?_⟩⟩
        rw [hr]
        refine ⟨rfl, _, hb.setSt _, B.set hb ne_rrd _ ?_⟩
        simpa using hu2

theorem rdNum_len {top : Nat} {l : List UInt8} {bad : Bool} {n : Nat} {r : List UInt8} (h : rdNum top l bad = some (n, r)) : r.length + 6 = l.length ∧ n ≤ top := by
  simp only [rdNum] at h
  split at h
  · cases h
  · split at h
    · cases h
    · simp only [Option.some.injEq, Prod.mk.injEq] at h
      obtain ⟨rfl, rfl⟩ := h; simp; omega

/-- What is left of a document's reader. -/
theorem rrBytes_ok {M : Store} {b : Nat} {l : List UInt8} {bad : Bool} {top : Nat} (h : Rd Ty.fettleref1_Reader M b l bad) (ht : top ≤ 2 ^ 40) (hl : l.length ≤ 2 ^ 24) :
    R F.fettleref1_Reader_Bytes #[.pointer (some ⟨b, 0, none⟩), .int .i64 top] M fun v M' => Ch [b] M M' ∧ match rdBytes top l bad with
      | some (x, r) => B M' v x ∧ Rd Ty.fettleref1_Reader M' b r false
      | none => B M' v [] ∧ ∃ r, r.length ≤ l.length ∧ Rd Ty.fettleref1_Reader M' b r true := by
  refine R.cps fun Q hQ => ?_
  apply T_fettleref1_Reader_Bytes
  unfold S_fettleref1_Reader_Bytes
  refine (rrNum_ok h ht hl).mono fun v1 M1 ⟨hc1, h1⟩ => ?_
  have hfail : ∀ w bd r, Ob M1 b [w, .bool bd] Ty.fettleref1_Reader → B M1 w r → r.length ≤ l.length → rdBytes top l bad = none → OP (st 1 (.pointer (some ⟨b, 1, none⟩)) (.bool true) M1) fun M2 => NTs [.slice none 0 0] ∧ Q (.slice none 0 0) M2 := by
    intro w bd r hb hw hrl hr
    rw [hb.st (o := 1) (by simp) rfl rfl, OP_some]
    refine ⟨rfl, hQ _ _ ⟨hc1.trans (Ch.setO hb _), ?_⟩⟩
    rw [hr]
    exact ⟨Sl.nil _ _ _, r, hrl, w, hb.setSt _, B.set hb ne_rrd _ hw⟩
  cases hnum : rdNum top l bad with
  | none =>
    rw [hnum] at h1
    obtain ⟨rfl, w, hb, hw⟩ := h1
    have e1 := hb.ld (o := 1) rfl
    simp only [ev, Nat.zero_add, e1]
    exact hfail w true l hb hw (Nat.le_refl _) (by simp [rdBytes, hnum])
  | some p =>
    obtain ⟨n, r⟩ := p
    rw [hnum] at h1
    obtain ⟨rfl, w, hb, hw⟩ := h1
    obtain ⟨hrl, hnt⟩ := rdNum_len hnum
    have e0 := hb.ld (o := 0) rfl
    have e1 := hb.ld (o := 1) rfl
    simp only [ev, Nat.zero_add, e1, e0, hw.lenV]
    by_cases hn : n ≤ r.length
    · rw [if_neg (by omega)]
      have hup := Up.push M1 (some (.inl (([] : List Value), Ty.uint8, true)))
      have hb2 := hb.up hup
      have e2 := hb2.ld (o := 0) rfl
      obtain ⟨u, e3, hu⟩ := By.cut (Sl.up hw hup) (lo := none) (hi := some (.int .i64 n)) (a := 0) (r := n) (by simpa using abound_some (k := .i64) (d := r.length) (i := (n : Int)) (y := r.length) (by omega) (by omega)) rfl (by omega) (by omega)
      rw [List.drop_zero] at hu
      simp only [e2, e3, ev]
      have hn0 : N M1 (M1.push (some (.inl (([] : List Value), Ty.uint8, true)))) (.slice (some ⟨M1.n, 0, none⟩) 0 0) [] := Nw.lit (n := 0) (cs := []) (Nat.le_refl _) (by simp)
      obtain ⟨v3, M3, e4, hu3, h3, _⟩ := NB.app hup hn0 hu (by simp; omega)
      rw [List.nil_append] at h3
      rw [e4, OP2_some]
      have hb3 := hb.up hu3
      have e5 := hb3.ld (o := 0) rfl
      obtain ⟨u2, e6, hu2⟩ := By.cut (Sl.up hw hu3) (lo := some (.int .i64 n)) (hi := none) (a := n) (r := r.length) rfl (by simpa using abound_some (i := (n : Int)) (y := r.length) (d := 0) (k := .i64) (by omega) (by omega)) (by omega) (by omega)
      rw [List.take_length] at hu2
      obtain ⟨a, c, rfl⟩ := hu2.slice
      simp only [e5, e6, ev]
      rw [hb3.st (o := 0) (by simp) rfl rfl, OP_some]
      refine ⟨nts_of h3.sl, hQ _ _ ⟨(hc1.up hu3).trans (Ch.setO hb3 _), ?_⟩⟩
      simp only [rdBytes, hnum, Option.bind_some]
      rw [if_neg (by omega)]
      exact ⟨B.set hb3 ne_rrd _ h3.by, _, hb3.setSt _, B.set hb3 ne_rrd _ hu2⟩
    · rw [if_pos (by omega)]
      exact hfail w false r hb hw (by omega) (by simp only [rdBytes, hnum, Option.bind_some]; rw [if_pos (by omega)])

end Go.G

namespace Go.G
open Go.Ab Go.Proofs Go.RowKit
set_option linter.unusedVariables false
set_option linter.unusedSimpArgs false

theorem rdBytes_iff {top : Nat} {l x r : List UInt8} : rdBytes top l false = some (x, r) ↔
    6 ≤ l.length ∧ numOf (l.take 6) ≤ top ∧ 6 + numOf (l.take 6) ≤ l.length ∧ x = (l.drop 6).take (numOf (l.take 6)) ∧ r = l.drop (6 + numOf (l.take 6)) := by
  by_cases h6 : l.length < 6
  · simp [rdBytes, rdNum, h6]; omega
  · by_cases ht : numOf (l.take 6) > top
    · simp [rdBytes, rdNum, h6, ht]; omega
    · by_cases hn : numOf (l.take 6) > (l.drop 6).length
      · have hd : (l.drop 6).length = l.length - 6 := List.length_drop
        simp only [rdBytes, rdNum, h6, ht, hn, or_false, if_false, if_true, Option.bind_some, Bool.false_eq_true]
        constructor
        · intro h; cases h
        · rintro ⟨_, _, h, _⟩; omega
      · have hd : (l.drop 6).length = l.length - 6 := List.length_drop
        simp only [rdBytes, rdNum, h6, ht, hn, or_false, if_false, Option.bind_some, Bool.false_eq_true, Option.some.injEq, Prod.mk.injEq, List.drop_drop]
        constructor
        · rintro ⟨rfl, rfl⟩; exact ⟨by omega, by omega, by omega, rfl, rfl⟩
        · rintro ⟨_, _, _, rfl, rfl⟩; exact ⟨rfl, rfl⟩
theorem rdBytes_len {top : Nat} {l x r : List UInt8} (h : rdBytes top l false = some (x, r)) : x.length ≤ top ∧ x.length + 6 + r.length = l.length ∧ r = l.drop (6 + x.length) := by
  obtain ⟨h1, h2, h3, rfl, rfl⟩ := rdBytes_iff.1 h
  have : ((l.drop 6).take (numOf (l.take 6))).length = numOf (l.take 6) := by simp; omega
  rw [this]
  exact ⟨h2, by simp; omega, rfl⟩

/-- What the frame holds that bytes begin with. -/
def oneF (b : List UInt8) : Option (List UInt8) :=
  (rdBytes 10000 b false).bind fun p => if p.2.length < 4 then none else if sum4 (crc (b.take (6 + p.1.length))) = p.2.take 4 then some p.1 else none
theorem oneF_len {b x : List UInt8} (h : oneF b = some x) : x.length + 10 ≤ b.length ∧ x.length ≤ 10000 := by
  simp only [oneF] at h
  obtain ⟨p, h1, h2⟩ := Option.bind_eq_some_iff.1 h
  obtain ⟨y, r⟩ := p
  have := rdBytes_len h1
  split at h2
  · cases h2
  · split at h2
    · injection h2 with h2; subst h2; simp only at *; omega
    · cases h2
/-- What the frames hold that bytes begin with, at most so many. -/
def scanN : Nat → List UInt8 → List (List UInt8)
  | 0, _ => []
  | k + 1, b => match oneF b with
    | none => []
    | some x => x :: scanN k (b.drop (x.length + 10))
def scanF (b : List UInt8) : List (List UInt8) := scanN b.length b
def flen (l : List (List UInt8)) : Nat := (l.map fun x => x.length + 10).sum
theorem scanN_more : ∀ (k k' : Nat) (b : List UInt8), b.length ≤ k → b.length ≤ k' → scanN k b = scanN k' b
  | 0, 0, _, _, _ => rfl
  | 0, k' + 1, b, h, _ => by
    have : b = [] := List.length_eq_zero_iff.1 (by omega)
    subst this; rfl
  | k + 1, 0, b, _, h => by
    have : b = [] := List.length_eq_zero_iff.1 (by omega)
    subst this; rfl
  | k + 1, k' + 1, b, h, h' => by
    simp only [scanN]
    cases ho : oneF b with
    | none => rfl
    | some x =>
      have := oneF_len ho
      simp only
      rw [scanN_more k k' _ (by simp; omega) (by simp; omega)]
theorem scanF_eq (b : List UInt8) : scanF b = match oneF b with
    | none => []
    | some x => x :: scanF (b.drop (x.length + 10)) := by
  cases hb : b.length with
  | zero =>
    have : b = [] := List.length_eq_zero_iff.1 hb
    subst this; rfl
  | succ k =>
    rw [scanF, hb, scanN]
    cases ho : oneF b with
    | none => rfl
    | some x =>
      have := oneF_len ho
      simp only
      rw [scanF, scanN_more k _ _ (by simp; omega) (Nat.le_refl _)]
theorem scanF_flen (b : List UInt8) : flen (scanF b) ≤ b.length := by
  have : ∀ k (b : List UInt8), flen (scanN k b) ≤ b.length := by
    intro k
    induction k with
    | zero => intro b; simp [scanN, flen]
    | succ k ih =>
      intro b
      simp only [scanN]
      cases ho : oneF b with
      | none => simp [flen]
      | some x =>
        have h1 := oneF_len ho
        have h2 := ih (b.drop (x.length + 10))
        simp only [flen, List.map_cons, List.sum_cons] at h2 ⊢
        simp only [List.length_drop] at h2
        omega
  exact this _ _
theorem scanF_count (b : List UInt8) : (scanF b).length * 10 ≤ b.length := by
  have h := scanF_flen b
  have : ∀ l : List (List UInt8), l.length * 10 ≤ flen l := by
    intro l
    induction l with
    | nil => simp
    | cons x l ih => simp only [flen, List.map_cons, List.sum_cons, List.length_cons] at *; omega
  have := this (scanF b)
  omega

theorem bv_neq (a b : UInt8) (K : Value → Prop) : OP (binI .neq (bv a) (bv b)) K = K (.bool (decide (a ≠ b))) := by
  unfold bv
  rw [e_neq]
  congr 2
  rw [decide_eq_decide]
  constructor
  · intro h e; subst e; exact h rfl
  · intro h e; apply h; apply UInt8.toNat_inj.1; omega

theorem frame_ok {M : Store} {v : Value} {l : List UInt8} (h : B M v l) (hl : l.length ≤ 2 ^ 24) {at_ : Nat} (hat : at_ ≤ l.length) :
    R F.fettleref1_frame #[v, .int .i64 at_] M fun r M' => Up M M' ∧ match oneF (l.drop at_) with
      | some x => ∃ w, r = .tuple #[w, .int .i64 ((at_ + (x.length + 10) : Nat) : Int), .bool true] ∧ B M' w x ∧ NTs [w]
      | none => r = .tuple #[.slice none 0 0, .int .i64 at_, .bool false] := by
  refine R.cps fun Q hQ => ?_
  apply T_fettleref1_frame
  unfold S_fettleref1_frame
  obtain ⟨u, e1, hu⟩ := By.cut h (lo := some (.int .i64 at_)) (hi := none) (a := at_) (r := l.length) rfl (abound_nat hat) (by omega) (by omega)
  rw [List.take_length] at hu
  have hdl : (l.drop at_).length = l.length - at_ := List.length_drop
  obtain ⟨a, c, rfl⟩ := hu.slice
  have e2 : bldS #[.slice none 0 0, .bool false] [(0, 1), (1, 1)] [(0, .slice a (l.drop at_).length c)] = some (.agg #[.slice a (l.drop at_).length c, .bool false]) := by kernel_rfl
  have e3 : boxv (.agg #[.slice a (l.drop at_).length c, .bool false]) = some [.slice a (l.drop at_).length c, .bool false] := by kernel_rfl
  simp only [e1, e2, e3, ev]
  have hup := Up.push M (some (.inl ([.slice a (l.drop at_).length c, .bool false], Ty.fettleref1_Reader, true)))
  have hR : Rd Ty.fettleref1_Reader (M.push (some (.inl ([.slice a (l.drop at_).length c, .bool false], Ty.fettleref1_Reader, true)))) M.n (l.drop at_) false :=
    ⟨_, Ob.new _ _ _, Sl.up hu hup⟩
  refine (rrBytes_ok (top := 10000) hR (by omega) (by omega)).mono fun v2 M2 ⟨hc2, h2⟩ => ?_
  have hu2 : Up M M2 := hup.ch hc2 fun b hb => by simp at hb; omega
  have none_ : ∀ M', Up M M' → oneF (l.drop at_) = none → NTs [.slice none 0 0, .int .i64 (at_ : Int), .bool false] ∧ Q (.tuple #[.slice none 0 0, .int .i64 (at_ : Int), .bool false]) M' := by
    intro M' hM hn
    exact ⟨rfl, hQ _ _ ⟨hM, by rw [hn]⟩⟩
  cases hb : rdBytes 10000 (l.drop at_) false with
  | none =>
    rw [hb] at h2
    obtain ⟨hv2, r, hrl, w, hob, hw⟩ := h2
    have e5 := hob.ld (o := 1) rfl
    simp only [ev, Nat.zero_add, e5]
    exact none_ _ hu2 (by simp [oneF, hb])
  | some p =>
    obtain ⟨x, r⟩ := p
    rw [hb] at h2
    obtain ⟨hv2, w, hob, hw⟩ := h2
    obtain ⟨hx1, hx2, hx3⟩ := rdBytes_len hb
    have e5 := hob.ld (o := 1) rfl
    have e6 := hob.ld (o := 0) rfl
    simp only [ev, Nat.zero_add, e5, e6, hw.lenV]
    by_cases h4 : r.length < 4
    · rw [if_pos (by omega)]
      exact none_ _ hu2 (by simp [oneF, hb, h4])
    · have e7 : IntKind.wrap .i64 (IntKind.wrap .i64 ((at_ : Int) + 6) + (x.length : Int)) = ((at_ + 6 + x.length : Nat) : Int) := by
        rw [w64 (x := (at_ : Int) + 6) (by omega) (by omega), w64 (by omega) (by omega)]; omega
      rw [if_neg (by omega), hv2.lenV]
      simp only [ev, e7]
      obtain ⟨u2, e8, hu8⟩ := By.cut (Sl.up h hu2) (lo := some (.int .i64 at_)) (hi := some (.int .i64 ((at_ + 6 + x.length : Nat) : Int))) (a := at_) (r := at_ + 6 + x.length) (abound_nat (by omega)) (abound_nat (by omega)) (by omega) (by omega)
      have e9 : (l.take (at_ + 6 + x.length)).drop at_ = (l.drop at_).take (6 + x.length) := by
        rw [List.drop_take]; congr 1; omega
      rw [e9] at hu8
      rw [e8, OP_some]
      refine (RSum_ok hu8 (by simp; omega)).mono fun v3 M3 ⟨hM3, hv3⟩ => ?_
      subst hM3; subst hv3
      -- the four bytes
      have hend : at_ + 6 + x.length + 4 ≤ l.length := by omega
      have hr : r = l.drop (at_ + 6 + x.length) := by rw [hx3, List.drop_drop]; congr 1; omega
      have hr4 : r.take 4 = [l[at_ + 6 + x.length], l[at_ + 6 + x.length + 1], l[at_ + 6 + x.length + 2], l[at_ + 6 + x.length + 3]] := by
        rw [hr, List.drop_eq_getElem_cons (by omega), List.drop_eq_getElem_cons (i := at_ + 6 + x.length + 1) (by omega), List.drop_eq_getElem_cons (i := at_ + 6 + x.length + 1 + 1) (by omega), List.drop_eq_getElem_cons (i := at_ + 6 + x.length + 1 + 1 + 1) (by omega)]
        rfl
      have hone : oneF (l.drop at_) = if sum4 (crc ((l.drop at_).take (6 + x.length))) = r.take 4 then some x else none := by
        simp only [oneF, hb, Option.bind_some]; rw [if_neg h4]
      rw [hr4] at hone
      generalize hc : crc ((l.drop at_).take (6 + x.length)) = cc at *
      have B2 : B M3 v l := Sl.up h hu2
      obtain ⟨p0, a0, b0⟩ := By.at B2 (i := at_ + 6 + x.length) (by omega) .i64
      obtain ⟨p1, a1, b1⟩ := By.at B2 (i := at_ + 6 + x.length + 1) (by omega) .i64
      obtain ⟨p2, a2, b2⟩ := By.at B2 (i := at_ + 6 + x.length + 2) (by omega) .i64
      obtain ⟨p3, a3, b3⟩ := By.at B2 (i := at_ + 6 + x.length + 3) (by omega) .i64
      have h24 := u32_shr cc 24 (by omega)
      have h16 := u32_shr cc 16 (by omega)
      have h8 := u32_shr cc 8 (by omega)
      simp only [Int.cast_ofNat_Int] at h24 h16 h8
      have i1 : IntKind.wrap .i64 (((at_ + 6 + x.length : Nat) : Int) + 1) = ((at_ + 6 + x.length + 1 : Nat) : Int) := by rw [w64 (by omega) (by omega)]; omega
      have i2 : IntKind.wrap .i64 (((at_ + 6 + x.length : Nat) : Int) + 2) = ((at_ + 6 + x.length + 2 : Nat) : Int) := by rw [w64 (by omega) (by omega)]; omega
      have i3 : IntKind.wrap .i64 (((at_ + 6 + x.length : Nat) : Int) + 3) = ((at_ + 6 + x.length + 3 : Nat) : Int) := by rw [w64 (by omega) (by omega)]; omega
      have i4 : IntKind.wrap .i64 (((at_ + 6 + x.length : Nat) : Int) + 4) = ((at_ + (x.length + 10) : Nat) : Int) := by rw [w64 (by omega) (by omega)]; omega
      simp only [a0, b0, ev, h24, cv_u8, bv_neq]
      split
      · rename_i hne
        exact none_ _ hu2 (by rw [hone, if_neg]; simp only [sum4, List.cons.injEq]; intro hh; exact hne hh.1.symm)
      rename_i k0
      simp only [i1, a1, b1, ev, h16, cv_u8, bv_neq]
      split
      · rename_i hne
        exact none_ _ hu2 (by rw [hone, if_neg]; simp only [sum4, List.cons.injEq]; intro hh; exact hne hh.2.1.symm)
      rename_i k1
      simp only [i2, a2, b2, ev, h8, cv_u8, bv_neq]
      split
      · rename_i hne
        exact none_ _ hu2 (by rw [hone, if_neg]; simp only [sum4, List.cons.injEq]; intro hh; exact hne hh.2.2.1.symm)
      rename_i k2
      simp only [i3, a3, b3, ev, cv_u8, bv_neq]
      split
      · rename_i hne
        exact none_ _ hu2 (by rw [hone, if_neg]; simp only [sum4, List.cons.injEq]; intro hh; exact hne hh.2.2.2.1.symm)
      rename_i k3
      simp only [i4, ev]
      obtain ⟨aw, cw, rfl⟩ := hv2.slice
      refine ⟨rfl, hQ _ _ ⟨hu2, ?_⟩⟩
      rw [hone, if_pos]
      · exact ⟨_, rfl, hv2, rfl⟩
      · simp only [sum4, List.cons.injEq, and_true]
        exact ⟨(Classical.not_not.1 k0).symm, (Classical.not_not.1 k1).symm, (Classical.not_not.1 k2).symm, (Classical.not_not.1 k3).symm⟩

theorem oneF_more {b x : List UInt8} (h : oneF b = some x) : x.length + 10 ≤ b.length := (oneF_len h).1

theorem ne_bb : Ty.uint8 ≠ Ty.sl_uint8 := by decide
theorem e_lit1s (z : Value) (a : Option Addr) (n c : Nat) (K : List Value → Prop) : OP (bldL z 1 1 [(0, .slice a n c)]) K = K [.slice a n c] := by kernel_rfl
theorem flen_append (a b : List (List UInt8)) : flen (a ++ b) = flen a + flen b := by simp [flen]
theorem ls_nts {α : Type} {E : Store → Value → α → Prop} {e M v} {xs : List α} (h : Ls E e M v xs) : ∃ a c, v = .slice a xs.length c := by
  obtain ⟨vs, h1, _⟩ := h; exact h1.slice

theorem RScan_loop {M0 : Store} {v : Value} {l : List UInt8} (h : B M0 v l) (hl : l.length ≤ 2 ^ 24) {Q : Value → Store → Prop}
    (hQ : ∀ w M', Up M0 M' → NLs B Ty.sl_uint8 M0 M' w (scanF l) → Q (.tuple #[w, .int .i64 (flen (scanF l) : Nat)]) M') : ∀ (k at_ : Nat) (M : Store) (w : Value) (acc : List (List UInt8)), l.length - at_ < k → at_ ≤ l.length → Up M0 M →
    NLs B Ty.sl_uint8 M0 M w acc → acc ++ scanF (l.drop at_) = scanF l → at_ = flen acc → P_fettleref1_Scan_1 v w (.int .i64 (at_ : Int)) M Q := by
  intro k
  induction k with
  | zero => intro at_ M w acc hk; omega
  | succ k ih =>
    intro at_ M w acc hk hat hu hw hacc hfl
    apply T_fettleref1_Scan_1
    unfold S_fettleref1_Scan_1
    refine (frame_ok (Sl.up h hu) hl hat).mono fun r M1 ⟨hu1, h1⟩ => ?_
    cases ho : oneF (l.drop at_) with
    | none =>
      rw [ho] at h1
      rw [scanF_eq, ho, List.append_nil] at hacc
      obtain ⟨a, c, rfl⟩ := ls_nts hw.ls
      have hq := hQ _ _ (hu.trans hu1) (by rw [← hacc]; exact NLs.up By.up' hw hu1)
      rw [← hacc, ← hfl] at hq
      rw [h1]
      simp only [e_tup]
      exact ⟨rfl, hq⟩
    | some x =>
      rw [ho] at h1
      obtain ⟨u, h1, hx, hnt⟩ := h1
      have hlen := oneF_len ho
      have hdl : (l.drop at_).length = l.length - at_ := List.length_drop
      obtain ⟨a, c, rfl⟩ := hx.slice
      rw [h1]
      simp only [e_tup]
      have t0 : (#[Value.slice a x.length c, Value.int .i64 ((at_ + (x.length + 10) : Nat) : Int), Value.bool true])[0]? = some (.slice a x.length c) := rfl
      have t1 : (#[Value.slice a x.length c, Value.int .i64 ((at_ + (x.length + 10) : Nat) : Int), Value.bool true])[1]? = some (.int .i64 ((at_ + (x.length + 10) : Nat) : Int)) := rfl
      have t2 : (#[Value.slice a x.length c, Value.int .i64 ((at_ + (x.length + 10) : Nat) : Int), Value.bool true])[2]? = some (.bool true) := rfl
      simp only [t0, t1, t2, ev, Bool.not_true, e_lit1s]
      have hcnt := scanF_count l
      have hac : acc.length ≤ (scanF l).length := by rw [← hacc]; simp
      obtain ⟨w', M2, e2, hu2, hw2, _⟩ := NLs.app1 (By.keep' ne_bb) (hu.trans hu1) (NLs.up By.up' hw hu1) hx (by omega)
      rw [e2, OP2_some]
      refine ih (at_ + (x.length + 10)) M2 w' (acc ++ [x]) (by omega) (by omega) hu2 hw2 ?_ ?_
      · rw [← hacc, scanF_eq (l.drop at_), ho]; simp only [List.drop_drop]; rw [List.append_assoc]; rfl
      · rw [flen_append, ← hfl]; simp [flen]

theorem RScan_ok {M : Store} {v : Value} {l : List UInt8} (h : B M v l) (hl : l.length ≤ 2 ^ 24) : R F.fettleref1_Scan #[v] M fun r M' => Up M M' ∧ ∃ w, r = .tuple #[w, .int .i64 (flen (scanF l) : Nat)] ∧ NLs B Ty.sl_uint8 M M' w (scanF l) := by
  refine R.cps fun Q hQ => ?_
  apply T_fettleref1_Scan
  unfold S_fettleref1_Scan
  exact RScan_loop h hl (fun w M' hu hw => hQ _ _ ⟨hu, w, rfl, hw⟩) (l.length + 1) 0 M _ [] (by omega) (by omega) (Ch.refl _ _) NLs.nil rfl rfl

end Go.G

namespace Go.G
open Go.Ab Go.Proofs Go.RowKit
set_option linter.unusedVariables false
set_option linter.unusedSimpArgs false

theorem Equal_loop {M : Store} {x y : Value} {l k : List UInt8} (hx : B M x l) (hy : B M y k) (hle : l.length ≤ 2 ^ 26) (hlen : l.length = k.length) {Q : Value → Store → Prop} : ∀ (d i : Nat), d + i = l.length → Q (.bool (decide (l.drop i = k.drop i))) M →
    P_slices_Equal_sl_byte_byte_1 x y (.int .i64 (l.length : Int)) (.int .i64 (i : Int)) M Q := by
  intro d
  induction d with
  | zero =>
    intro i hi h
    apply T_slices_Equal_sl_byte_byte_1
    unfold S_slices_Equal_sl_byte_byte_1
    simp (disch := omega) only [ev, if_neg]
    apply T_slices_Equal_sl_byte_byte_3
    rw [List.drop_of_length_le (by omega), List.drop_of_length_le (by omega)] at h
    exact ⟨rfl, h⟩
  | succ d ih =>
    intro i hi h
    apply T_slices_Equal_sl_byte_byte_1
    unfold S_slices_Equal_sl_byte_byte_1
    simp (disch := omega) only [ev, if_pos]
    apply T_slices_Equal_sl_byte_byte_2
    unfold S_slices_Equal_sl_byte_byte_2
    obtain ⟨p, h1, h2⟩ := By.at hx (i := i) (by omega) .i64
    obtain ⟨q, h3, h4⟩ := By.at hy (i := i) (by omega) .i64
    simp only [h1, h2, h3, h4, ev, bv_neq]
    have e1 : l.drop i = l[i] :: l.drop (i + 1) := List.drop_eq_getElem_cons (by omega)
    have e2 : k.drop i = k[i] :: k.drop (i + 1) := List.drop_eq_getElem_cons (by omega)
    split
    · rename_i hne
      refine ⟨rfl, ?_⟩
      have : ¬ (l.drop i = k.drop i) := by rw [e1, e2]; intro e; injection e with e _; exact hne e
      rw [decide_eq_false this] at h; exact h
    · rename_i hne
      have heq : l[i] = k[i] := Classical.not_not.1 hne
      rw [w64 (by omega) (by omega)]
      refine ih (i + 1) (by omega) ?_
      have : (l.drop i = k.drop i) = (l.drop (i + 1) = k.drop (i + 1)) := by rw [e1, e2, heq, List.cons.injEq]; simp only [true_and]
      simp only [this] at h; exact h

theorem Equal_ok {M : Store} {x y : Value} {l k : List UInt8} (hx : B M x l) (hy : B M y k) (h1 : l.length ≤ 2 ^ 26) (h2 : k.length ≤ 2 ^ 26) : R F.slices_Equal_sl_byte_byte #[x, y] M fun v M' => M' = M ∧ v = .bool (decide (l = k)) := by
  refine R.cps fun Q hQ => ?_
  apply T_slices_Equal_sl_byte_byte
  unfold S_slices_Equal_sl_byte_byte
  rw [hx.lenV, hy.lenV]
  simp only [ev]
  split
  · rename_i h
    have : l ≠ k := fun e => h (by rw [e])
    exact ⟨rfl, hQ _ _ ⟨rfl, by rw [decide_eq_false this]⟩⟩
  · rename_i h
    exact Equal_loop hx hy h1 (by omega) l.length 0 rfl (hQ _ _ ⟨rfl, rfl⟩)

theorem rdBytes_take {b : List UInt8} : (rdBytes 10000 (b.take 10006) false).map (·.1) = (rdBytes 10000 b false).map (·.1) := by
  cases hb : rdBytes 10000 b false with
  | none =>
    cases ht : rdBytes 10000 (b.take 10006) false with
    | none => rfl
    | some p =>
      obtain ⟨x, r⟩ := p
      obtain ⟨h1, h2, h3, h4, h5⟩ := rdBytes_iff.1 ht
      have e1 : (b.take 10006).take 6 = b.take 6 := by rw [List.take_take]; congr 1
      rw [e1] at h2 h3
      simp only [List.length_take] at h1 h3
      have : rdBytes 10000 b false = some ((b.drop 6).take (numOf (b.take 6)), b.drop (6 + numOf (b.take 6))) := rdBytes_iff.2 ⟨by omega, h2, by omega, rfl, rfl⟩
      rw [hb] at this; cases this
  | some p =>
    obtain ⟨x, r⟩ := p
    obtain ⟨h1, h2, h3, h4, h5⟩ := rdBytes_iff.1 hb
    have e1 : (b.take 10006).take 6 = b.take 6 := by rw [List.take_take]; congr 1
    have : rdBytes 10000 (b.take 10006) false = some (((b.take 10006).drop 6).take (numOf ((b.take 10006).take 6)), (b.take 10006).drop (6 + numOf ((b.take 10006).take 6))) :=
      rdBytes_iff.2 ⟨by simp; omega, by rw [e1]; exact h2, by rw [e1]; simp; omega, rfl, rfl⟩
    rw [this]
    simp only [Option.map_some, e1, h4, List.drop_take, List.take_take]
    congr 2
    omega

theorem one_ok {M : Store} {v : Value} {l : List UInt8} (h : B M v l) (hl : l.length ≤ 2 ^ 24) :
    R F.fram_one #[v] M fun r M' => Up M M' ∧ match oneF l with
      | some x => ∃ w, r = .tuple #[w, .int .i64 ((x.length + 10 : Nat) : Int), .bool true] ∧ B M' w x ∧ NTs [w]
      | none => r = .tuple #[.slice none 0 0, .int .i64 0, .bool false] := by
  refine R.cps fun Q hQ => ?_
  apply T_fram_one
  unfold S_fram_one
  have emin : (if (10006 : Int) < (l.length : Int) then (10006 : Int) else (l.length : Int)) = ((min l.length 10006 : Nat) : Int) := by split <;> omega
  rw [h.lenV]
  simp only [ev, emin]
  obtain ⟨u, e1, hu⟩ := By.cut h (lo := none) (hi := some (.int .i64 ((min l.length 10006 : Nat) : Int))) (a := 0) (r := min l.length 10006) (abound_nat (by omega)) rfl (by omega) (by omega)
  rw [List.drop_zero] at hu
  have hmin : l.take (min l.length 10006) = l.take 10006 := by
    rcases Nat.le_total l.length 10006 with h | h
    · rw [Nat.min_eq_left h, List.take_length, List.take_of_length_le h]
    · rw [Nat.min_eq_right h]
  rw [hmin] at hu
  rw [e1, OP_some]
  refine (Read_ok hu (by simp; omega)).mono fun r1 M1 ⟨hu1, b, hr1, hb, hR⟩ => ?_
  subst hr1
  refine (rBytes_ok (top := 10000) hR (by omega) (by simp; omega)).mono fun v2 M2 ⟨hc2, h2⟩ => ?_
  have hu2 : Up M M2 := hu1.ch hc2 fun c hc => by simp at hc; omega
  have none_ : ∀ M', Up M M' → oneF l = none → NTs [.slice none 0 0, .int .i64 0, .bool false] ∧ Q (.tuple #[.slice none 0 0, .int .i64 0, .bool false]) M' := by
    intro M' hM hn
    exact ⟨rfl, hQ _ _ ⟨hM, by rw [hn]⟩⟩
  have htk := rdBytes_take (b := l)
  cases hb2 : rdBytes 10000 (l.take 10006) false with
  | none =>
    rw [hb2] at h2 htk
    obtain ⟨hv2, hR2⟩ := h2
    have hn : rdBytes 10000 l false = none := by
      cases hh : rdBytes 10000 l false with
      | none => rfl
      | some p => rw [hh] at htk; cases htk
    rw [hv2.lenV, OP_some, e_add]
    refine (Ok_ok hR2).mono fun v3 M3 ⟨hM3, hv3⟩ => ?_
    subst hM3; subst hv3
    refine ⟨Up.tdx (Ch.refl _ _) _ _ _, ?_⟩
    simp only [Bool.not_true, ev, Bool.not_false]
    exact none_ _ hu2 (by simp [oneF, hn])
  | some p =>
    obtain ⟨x, r⟩ := p
    rw [hb2] at h2 htk
    obtain ⟨hv2, hR2⟩ := h2
    obtain ⟨r', hrb⟩ : ∃ r', rdBytes 10000 l false = some (x, r') := by
      cases hh : rdBytes 10000 l false with
      | none => rw [hh] at htk; cases htk
      | some q => obtain ⟨y, r'⟩ := q; rw [hh] at htk; simp only [Option.map_some, Option.some.injEq] at htk; subst htk; exact ⟨r', rfl⟩
    obtain ⟨hx1, hx2, hx3⟩ := rdBytes_len hrb
    have hone : oneF l = if r'.length < 4 then none else if sum4 (crc (l.take (6 + x.length))) = r'.take 4 then some x else none := by
      simp only [oneF, hrb, Option.bind_some]
    have i0 : IntKind.wrap .i64 ((6 : Int) + (x.length : Int)) = ((6 + x.length : Nat) : Int) := by rw [w64 (by omega) (by omega)]; omega
    have i4 : IntKind.wrap .i64 (((6 + x.length : Nat) : Int) + 4) = ((6 + x.length + 4 : Nat) : Int) := by rw [w64 (by omega) (by omega)]; omega
    rw [hv2.lenV, OP_some, e_add, i0]
    refine (Ok_ok hR2).mono fun v3 M3 ⟨hM3, hv3⟩ => ?_
    subst hM3; subst hv3
    refine ⟨Up.tdx (Ch.refl _ _) _ _ _, ?_⟩
    simp only [Bool.not_true, ev, Bool.not_false, i4]
    by_cases h4 : r'.length < 4
    · rw [if_pos (by omega)]
      exact none_ _ hu2 (by rw [hone, if_pos h4])
    · rw [if_neg (by omega)]
      obtain ⟨u2, e2, hu3⟩ := By.cut (Sl.up h hu2) (lo := none) (hi := some (.int .i64 ((6 + x.length : Nat) : Int))) (a := 0) (r := 6 + x.length) (abound_nat (by omega)) rfl (by omega) (by omega)
      rw [List.drop_zero] at hu3
      rw [e2, OP_some]
      refine (sum_ok hu3 (by simp; omega)).mono fun v4 M4 ⟨hu4, h4v⟩ => ?_
      refine ⟨hu4.tdj _ _, ?_⟩
      obtain ⟨u5, e5, hu5⟩ := By.cut (Sl.up h (hu2.trans hu4)) (lo := some (.int .i64 ((6 + x.length : Nat) : Int))) (hi := some (.int .i64 ((6 + x.length + 4 : Nat) : Int))) (a := 6 + x.length) (r := 6 + x.length + 4) (abound_nat (by omega)) (abound_nat (by omega)) (by omega) (by omega)
      have e6 : (l.take (6 + x.length + 4)).drop (6 + x.length) = r'.take 4 := by
        rw [List.drop_take, hx3]; congr 1; omega
      rw [e6] at hu5
      rw [e5, OP_some]
      refine (Equal_ok h4v.by hu5 (by simp [sum4]) (by simp; omega)).mono fun v6 M6 ⟨hM6, hv6⟩ => ?_
      subst hM6; subst hv6
      refine ⟨Up.tdx (Ch.refl _ _) _ _ _, ?_⟩
      rw [e_not]
      by_cases hs : sum4 (crc (l.take (6 + x.length))) = r'.take 4
      · rw [decide_eq_true hs]
        simp only [Bool.not_true, ev]
        obtain ⟨aw, cw, rfl⟩ := hv2.slice
        refine ⟨rfl, hQ _ _ ⟨hu2.trans hu4, ?_⟩⟩
        rw [hone, if_neg h4, if_pos hs]
        exact ⟨_, by rw [show 6 + x.length + 4 = x.length + 10 by omega], Sl.up hv2 hu4, rfl⟩
      · rw [decide_eq_false hs]
        simp only [Bool.not_false, ev]
        exact none_ _ (hu2.trans hu4) (by rw [hone, if_neg h4, if_neg hs])

end Go.G

namespace Go.G
open Go.Ab Go.Proofs Go.RowKit
set_option linter.unusedVariables false
set_option linter.unusedSimpArgs false

theorem KC_func (g : FuncId) (first cap : Array Value) (args : List Value) (M : Store) (K : Value → Store → Prop) : KC (.func (.func g) first cap) args M K = R g (first.toList ++ (args ++ cap.toList)).toArray M K := rfl
theorem KC_yield (l : Nat) (cap : Array Value) (args : List Value) (M : Store) (K : Value → Store → Prop) : KC (.func (.yield l) #[] cap) args M K = RunsY Try.prog Ex l args.toArray M K := rfl

theorem All_ok {M : Store} {v : Value} {l : List UInt8} (h : B M v l) (hl : l.length ≤ 2 ^ 24) :
    R F.fram_All #[v] M fun r M' => Up M M' ∧ ∃ b w, r = .func (.func F.fram_All_c1) #[] #[.pointer (some ⟨b, 0, none⟩)] ∧ M.n ≤ b ∧ Ob M' b [w] Ty.sl_uint8 ∧ B M' w l := by
  refine R.cps fun Q hQ => ?_
  apply T_fram_All
  unfold S_fram_All
  obtain ⟨a, c, rfl⟩ := h.slice
  have e1 : boxv (.slice a l.length c) = some [.slice a l.length c] := by kernel_rfl
  simp only [e1, ev]
  have hup := Up.push M (some (.inl ([.slice a l.length c], Ty.sl_uint8, true)))
  have hob := Ob.new M [.slice a l.length c] Ty.sl_uint8
  rw [hob.ld (o := 0) rfl, OP_some]
  refine (Clone_ok (Sl.up h hup) hl).mono fun v2 M2 ⟨hu2, h2⟩ => ?_
  have hob2 := hob.up hu2
  obtain ⟨a2, c2, rfl⟩ := h2.sl.slice
  rw [hob2.st (o := 0) (by simp) rfl rfl, OP_some]
  have e2 : mkF (.func F.fram_All_c1) [] [.pointer (some ⟨M.n, 0, none⟩)] = some (.func (.func F.fram_All_c1) #[] #[.pointer (some ⟨M.n, 0, none⟩)]) := rfl
  rw [e2, OP_some]
  refine ⟨rfl, hQ _ _ ⟨Up.ch (hup.trans hu2) (Ch.setO hob2 _) (fun b hb => by simp at hb; omega), M.n, _, rfl, Nat.le_refl _, hob2.setSt _, ?_⟩⟩
  exact B.set hob2 ne_bb _ h2.by

/-- Frames are handed over one by one: what holds before each, and what holds when one leaves. -/
theorem Allc1_loop {L b : Nat} {w : Value} {l : List UInt8} (hl : l.length ≤ 2 ^ 24) (J : Nat → List (List UInt8) → Store → Prop) (Stop : Store → Prop) {Q : Value → Store → Prop}
    (hup : ∀ a d M M', J a d M → Up M M' → J a d M') (hmem : ∀ a d M, J a d M → Ob M b [w] Ty.sl_uint8 ∧ B M w l)
    (hround : ∀ a d M x u, J a d M → oneF (l.drop a) = some x → a + (x.length + 10) ≤ l.length → B M u x → RunsY Try.prog Ex L #[.int .i64 (a : Int), u] M fun v M' => (v = .bool true ∧ J (a + (x.length + 10)) (d ++ [x]) M') ∨ (v = .bool false ∧ Stop M'))
    (hend : ∀ a d M, J a d M → oneF (l.drop a) = none → Q (.tuple #[]) M) (hstop : ∀ M, Stop M → Q (.tuple #[]) M) :
    ∀ (k a : Nat) (d : List (List UInt8)) (M : Store), l.length - a < k → a ≤ l.length → J a d M → P_fram_All_c1_1 (.func (.yield L) #[] #[]) (.pointer (some ⟨b, 0, none⟩)) (.int .i64 (a : Int)) M Q := by
  intro k
  induction k with
  | zero => intro a d M hk; omega
  | succ k ih =>
    intro a d M hk ha hJ
    apply T_fram_All_c1_1
    unfold S_fram_All_c1_1
    obtain ⟨hob, hw⟩ := hmem a d M hJ
    rw [hob.ld (o := 0) rfl, OP_some]
    obtain ⟨u, e1, hu⟩ := By.cut hw (lo := some (.int .i64 (a : Int))) (hi := none) (a := a) (r := l.length) rfl (abound_nat ha) (Nat.le_refl _) ha
    rw [List.take_length] at hu
    rw [e1, OP_some]
    have hdl : (l.drop a).length = l.length - a := List.length_drop
    refine (one_ok hu (by omega)).mono fun r M1 ⟨hu1, h1⟩ => ?_
    have hJ1 := hup _ _ _ _ hJ hu1
    cases ho : oneF (l.drop a) with
    | none =>
      rw [ho] at h1
      rw [h1]
      simp only [e_tup]
      exact ⟨rfl, hend _ _ _ hJ1 ho⟩
    | some x =>
      rw [ho] at h1
      obtain ⟨ux, h1, hx, _⟩ := h1
      have hlen := oneF_len ho
      rw [h1]
      simp only [e_tup]
      have t0 : (#[ux, Value.int .i64 ((x.length + 10 : Nat) : Int), Value.bool true])[0]? = some ux := rfl
      have t1 : (#[ux, Value.int .i64 ((x.length + 10 : Nat) : Int), Value.bool true])[1]? = some (.int .i64 ((x.length + 10 : Nat) : Int)) := rfl
      have t2 : (#[ux, Value.int .i64 ((x.length + 10 : Nat) : Int), Value.bool true])[2]? = some (.bool true) := rfl
      simp only [t0, t1, t2, ev, Bool.not_true]
      rw [KC_yield]
      refine (hround a d M1 x ux hJ1 ho (by omega) hx).mono fun v2 M2 h2 => ?_
      rcases h2 with ⟨rfl, h2⟩ | ⟨rfl, h2⟩
      · simp only [ev, Bool.not_true]
        rw [w64 (by omega) (by omega)]
        exact ih (a + (x.length + 10)) (d ++ [x]) M2 (by omega) (by omega) h2
      · simp only [ev, Bool.not_false]
        exact ⟨rfl, hstop _ h2⟩

theorem Allc1_ok {L b : Nat} {w : Value} {l : List UInt8} (hl : l.length ≤ 2 ^ 24) (J : Nat → List (List UInt8) → Store → Prop) (Stop : Store → Prop) {Q : Value → Store → Prop} {M : Store} (h0 : J 0 [] M)
    (hup : ∀ a d M M', J a d M → Up M M' → J a d M') (hmem : ∀ a d M, J a d M → Ob M b [w] Ty.sl_uint8 ∧ B M w l)
    (hround : ∀ a d M x u, J a d M → oneF (l.drop a) = some x → a + (x.length + 10) ≤ l.length → B M u x → RunsY Try.prog Ex L #[.int .i64 (a : Int), u] M fun v M' => (v = .bool true ∧ J (a + (x.length + 10)) (d ++ [x]) M') ∨ (v = .bool false ∧ Stop M'))
    (hend : ∀ a d M, J a d M → oneF (l.drop a) = none → Q (.tuple #[]) M) (hstop : ∀ M, Stop M → Q (.tuple #[]) M) :
    R F.fram_All_c1 #[.func (.yield L) #[] #[], .pointer (some ⟨b, 0, none⟩)] M Q := by
  apply T_fram_All_c1
  unfold S_fram_All_c1
  exact Allc1_loop hl J Stop hup hmem hround hend hstop (l.length + 1) 0 [] M (by omega) (by omega) h0

theorem ClipBB_ok {M0 M : Store} {v : Value} {ll : List (List UInt8)} (h : NLs B Ty.sl_uint8 M0 M v ll) : R F.slices_Clip_sl_sl_byte_sl_byte #[v] M fun v' M' => M' = M ∧ NLs B Ty.sl_uint8 M0 M v' ll := by
  refine R.cps fun Q hQ => ?_
  obtain ⟨vs, h1, h2⟩ := h
  apply T_slices_Clip_sl_sl_byte_sl_byte
  obtain ⟨v', e, h'⟩ := slM_full h1
  unfold S_slices_Clip_sl_sl_byte_sl_byte
  rw [h1.sl.lenV]
  simp only [ev, e]
  exact ⟨nts_of h'.sl, hQ _ _ ⟨rfl, vs, h', h2⟩⟩

theorem By.keepI' (M M' : Store) (v : Value) (x : List UInt8) (h : B M v x) (k : KeepI M M') : B M' v x := Sl.keepI h k

theorem ne1 : Ty.sl_uint8 ≠ Ty.sl_sl_uint8 := by decide
theorem ne2 : Ty.uint8 ≠ Ty.sl_sl_uint8 := by decide
theorem ne3 : Ty.uint8 ≠ Ty.int := by decide
theorem ne4 : Ty.sl_uint8 ≠ Ty.int := by decide
theorem ne5 : Ty.sl_sl_uint8 ≠ Ty.int := by decide
theorem ne6 : Ty.int ≠ Ty.sl_sl_uint8 := by decide


/-- What holds before a round of Scan. -/
structure SJ (M0 Mb : Store) (m b4 b5 b : Nat) (w : Value) (l : List UInt8) (a : Nat) (d : List (List UInt8)) (M : Store) : Prop where
  up : Up M0 M
  nb : Mb.n ≤ M.n
  out : ∃ lw, Ob M b4 [lw] Ty.sl_sl_uint8 ∧ NLs B Ty.sl_uint8 Mb M lw d
  end_ : Ob M b5 [.int .i64 (flen d : Nat)] Ty.int
  rc : ∃ rc, Rc M (m + 1) rc ∧ RC_fram_Scan_1 (.pointer (some ⟨b4, 0, none⟩)) (.pointer (some ⟨b5, 0, none⟩)) .ready 0 rc
  box : Ob M b [w] Ty.sl_uint8
  by_ : B M w l
  at_ : a = flen d
  all : d ++ scanF (l.drop a) = scanF l
  df : M.get m = some (.inr (.inr none))

theorem SJ.round {M0 Mb : Store} {m b4 b5 b : Nat} {w : Value} {l : List UInt8} (hl : l.length ≤ 2 ^ 24) (hm : Mb.n = m + 2) (h0 : M0.n ≤ b4 ∧ M0.n ≤ b5 ∧ M0.n ≤ m) (hlt : b4 < m ∧ b5 < m ∧ b < m) (hne : b4 ≠ b5 ∧ b4 ≠ b ∧ b5 ≠ b)
    {a : Nat} {d : List (List UInt8)} {M : Store} {x : List UInt8} {u : Value} (hJ : SJ M0 Mb m b4 b5 b w l a d M) (ho : oneF (l.drop a) = some x) (ha : a + (x.length + 10) ≤ l.length) (hu : B M u x) :
    RunsY Try.prog Ex (m + 1) #[.int .i64 (a : Int), u] M fun v M' => v = .bool true ∧ SJ M0 Mb m b4 b5 b w l (a + (x.length + 10)) (d ++ [x]) M' := by
  obtain ⟨hup, hnb, ⟨lw, hlw, hls⟩, hend, ⟨rc, hrc, hRC⟩, hbox, hby, hat, hall, hdf⟩ := hJ
  refine Y_fram_Scan_1 hrc.of hRC ?_
  unfold SY_fram_Scan_1
  rw [hrc.of, OP_some]
  have hst : rc.st = .ready := by obtain ⟨f, _, _, rfl⟩ := hRC; rfl
  refine ⟨hst, ?_⟩
  -- the record is busy
  have hk1 := hrc.keepI { rc with st := .busy }
  have hc1 := hrc.ch { rc with st := .busy }
  have hrc1 := hrc.put { rc with st := .busy }
  have hg1 : ∀ i, i ≠ m + 1 → (putRec M (m + 1) { rc with st := .busy }).get i = M.get i := fun i hi => Store.get_set_ne _ _ (Ne.symm hi)
  have hn1 : (putRec M (m + 1) { rc with st := .busy }).n = M.n := by simp [putRec]
  have hup1 : Up M0 (putRec M (m + 1) { rc with st := .busy }) := hup.ch hc1 fun c hc => by simp at hc; omega
  generalize putRec M (m + 1) { rc with st := .busy } = M1 at *
  apply T_fram_Scan_2
  unfold S_fram_Scan_2
  have hlw1 := hlw.keepI hk1
  have hu1 := hu.keepI hk1
  rw [hlw1.ld (o := 0) rfl, OP_some]
  obtain ⟨ua, uc, rfl⟩ := hu.slice
  simp only [ev, e_lit1s]
  have hcnt := scanF_count l
  have hd : d.length ≤ (scanF l).length := by rw [← hall]; simp
  have hfl : flen d ≤ flen (scanF l) := by rw [← hall, flen_append]; omega
  have hfl2 := scanF_flen l
  obtain ⟨lw2, M2, e2, hup2, hls2, hk2, hf2⟩ := NLs.app2 (By.keep' ne_bb) hup1 (by omega) (by omega) (hls.keepI By.keepI' hk1) hu1 (by omega)
  rw [e2, OP2_some]
  have hlw2 := hlw1.same (hf2 b4 (by omega))
  obtain ⟨a2, c2, rfl⟩ := ls_nts hls2.ls
  rw [hlw2.st (o := 0) (by simp) rfl rfl, OP_some]
  have hk3 := (Ch.setO hlw2 (some (.inl ([lw].set 0 (.slice a2 (d ++ [x]).length c2), Ty.sl_sl_uint8, true)))).keepT hlw2
  have hc3 := Ch.setO hlw2 (some (.inl ([lw].set 0 (.slice a2 (d ++ [x]).length c2), Ty.sl_sl_uint8, true)))
  have hlw3 := hlw2.setSt ([lw].set 0 (.slice a2 (d ++ [x]).length c2))
  have hg3 : ∀ i, i ≠ b4 → (M2.set b4 (some (.inl ([lw].set 0 (.slice a2 (d ++ [x]).length c2), Ty.sl_sl_uint8, true)))).get i = M2.get i := fun i hi => Store.get_set_ne _ _ (Ne.symm hi)
  have hn3 : (M2.set b4 (some (.inl ([lw].set 0 (.slice a2 (d ++ [x]).length c2), Ty.sl_sl_uint8, true)))).n = M2.n := by simp
  generalize M2.set b4 (some (.inl ([lw].set 0 (.slice a2 (d ++ [x]).length c2), Ty.sl_sl_uint8, true))) = M3 at *
  have hend3 : Ob M3 b5 [.int .i64 (flen d : Nat)] Ty.int := ((hend.keepI hk1).same (hf2 b5 (by omega))).same (hg3 b5 (Ne.symm hne.1))
  have i1 : IntKind.wrap .i64 (IntKind.wrap .i64 (IntKind.wrap .i64 ((a : Int) + 6) + (x.length : Int)) + 4) = ((flen (d ++ [x]) : Nat) : Int) := by
    rw [w64 (x := (a : Int) + 6) (by omega) (by omega), w64 (x := (a : Int) + 6 + x.length) (by omega) (by omega), w64 (by omega) (by omega), flen_append]
    simp [flen]
    simp only [flen] at hat
    omega
  rw [i1, hend3.st (o := 0) (by simp) rfl rfl, OP_some]
  have hk4 := (Ch.setO hend3 (some (.inl ([Value.int .i64 (flen d : Nat)].set 0 (.int .i64 (flen (d ++ [x]) : Nat)), Ty.int, true)))).keepT hend3
  have hc4 := Ch.setO hend3 (some (.inl ([Value.int .i64 (flen d : Nat)].set 0 (.int .i64 (flen (d ++ [x]) : Nat)), Ty.int, true)))
  have hend4 := hend3.setSt ([Value.int .i64 (flen d : Nat)].set 0 (.int .i64 (flen (d ++ [x]) : Nat)))
  have hg4 : ∀ i, i ≠ b5 → (M3.set b5 (some (.inl ([Value.int .i64 (flen d : Nat)].set 0 (.int .i64 (flen (d ++ [x]) : Nat)), Ty.int, true)))).get i = M3.get i := fun i hi => Store.get_set_ne _ _ (Ne.symm hi)
  have hn4 : (M3.set b5 (some (.inl ([Value.int .i64 (flen d : Nat)].set 0 (.int .i64 (flen (d ++ [x]) : Nat)), Ty.int, true)))).n = M3.n := by simp
  generalize M3.set b5 (some (.inl ([Value.int .i64 (flen d : Nat)].set 0 (.int .i64 (flen (d ++ [x]) : Nat)), Ty.int, true))) = M4 at *
  have hn2 : M1.n ≤ M2.n := hk2.1
  have hget : ∀ i, i < m + 2 → i ≠ b4 → i ≠ b5 → M4.get i = M1.get i := fun i hi h4 h5 => by rw [hg4 i h5, hg3 i h4, hf2 i (by omega)]
  have hrc4 : Rc M4 (m + 1) { rc with st := .busy } := by
    unfold Rc; rw [hget (m + 1) (by omega) (by omega) (by omega)]; exact hrc1
  unfold YE
  rw [hrc4.of, OP_some]
  have hk5 := hrc4.keepI { rc with st := bif Nat.beq 0 0 then .ready else .done, pe := 0 }
  have hc5 := hrc4.ch { rc with st := bif Nat.beq 0 0 then .ready else .done, pe := 0 }
  have hrc5 := hrc4.put { rc with st := bif Nat.beq 0 0 then .ready else .done, pe := 0 }
  refine ⟨rfl, ?_, ?_, ⟨.slice a2 (d ++ [x]).length c2, ?_, ?_⟩, ?_, ⟨_, hrc5, ?_⟩, ?_, ?_, ?_, ?_, ?_⟩
  · exact ((hup2.ch hc3 (fun c hc => by simp at hc; omega)).ch hc4 (fun c hc => by simp at hc; omega)).ch hc5 (fun c hc => by simp at hc; omega)
  · simp [putRec]; omega
  · exact (hlw3.same (hg4 b4 hne.1)).keepI hk5
  · refine NLs.keepI By.keepI' ?_ hk5
    exact NLs.keep (By.keep' ne3) (NLs.keep (By.keep' ne2) hls2 ne1 hk3) ne4 hk4
  · exact hend4.keepI hk5
  · obtain ⟨f, f4, f5, rfl⟩ := hRC
    exact ⟨f, f4, f5, rfl⟩
  · exact (hbox.keepI hk1).same (hget b (by omega) (Ne.symm hne.2.1) (Ne.symm hne.2.2)) |>.keepI hk5
  · exact ((((hby.keepI hk1).keep ne_bb hk2).keep ne2 hk3).keep ne3 hk4).keepI hk5
  · rw [flen_append, ← hat]; simp [flen]
  · rw [← hall, scanF_eq (l.drop a), ho]; simp only [List.drop_drop]; rw [List.append_assoc]; rfl
  · have : (putRec M4 (m + 1) { rc with st := bif Nat.beq 0 0 then .ready else .done, pe := 0 }).get m = M4.get m := Store.get_set_ne _ _ (by omega)
    rw [this, hget m (by omega) (by omega) (by omega), hg1 m (by omega)]; exact hdf

theorem Scan_ok {M : Store} {v : Value} {l : List UInt8} (h : B M v l) (hl : l.length ≤ 2 ^ 24) : R F.fram_Scan #[v] M fun r M' => Up M M' ∧ ∃ w, r = .tuple #[w, .int .i64 (flen (scanF l) : Nat)] ∧ NLs B Ty.sl_uint8 M M' w (scanF l) := by
  refine R.cps fun Q hQ => ?_
  apply T_fram_Scan
  unfold S_fram_Scan
  simp only [ev]
  have u1 := Up.push M (some (.inl ([.slice none 0 0], Ty.sl_sl_uint8, true)))
  have o4 := Ob.new M [.slice none 0 0] Ty.sl_sl_uint8
  have n1 : (M.push (some (.inl ([.slice none 0 0], Ty.sl_sl_uint8, true)))).n = M.n + 1 := rfl
  generalize hM1 : M.push (some (.inl ([.slice none 0 0], Ty.sl_sl_uint8, true))) = M1 at *
  have u2 := Up.push M1 (some (.inl ([.int .i64 0], Ty.int, true)))
  have o5 := Ob.new M1 [.int .i64 0] Ty.int
  have n2 : (M1.push (some (.inl ([.int .i64 0], Ty.int, true)))).n = M1.n + 1 := rfl
  generalize hM2 : M1.push (some (.inl ([.int .i64 0], Ty.int, true))) = M2 at *
  rw [o5.st (o := 0) (by simp) rfl rfl, OP_some]
  have c3 := Ch.setO o5 (some (.inl ([Value.int .i64 0].set 0 (.int .i64 0), Ty.int, true)))
  have o53 := o5.setSt ([Value.int .i64 0].set 0 (.int .i64 0))
  have k3 := c3.keepT o5
  have n3 : (M2.set M1.n (some (.inl ([Value.int .i64 0].set 0 (.int .i64 0), Ty.int, true)))).n = M2.n := by simp
  generalize hM3 : M2.set M1.n (some (.inl ([Value.int .i64 0].set 0 (.int .i64 0), Ty.int, true))) = M3 at *
  have u3 : Up M M3 := Up.ch (u1.trans u2) c3 (fun c hc => by simp at hc; omega)
  have o43 := (o4.up u2).keep ne5 k3
  refine (All_ok (Sl.up h u3) hl).mono fun r M4 ⟨hu4, b, w, hr, hb, hob, hby⟩ => ?_
  subst hr
  have u4 : Up M M4 := u3.trans hu4
  have hn34 := hu4.le
  apply T_fram_Scan_1
  unfold S_fram_Scan_1
  intro rc hRC
  have u5 := Up.push M4 (some (.inr (.inr none)))
  have d5 : (M4.push (some (.inr (.inr none)))).get M4.n = some (.inr (.inr none)) := Store.get_push_eq _ _
  have n5 : (M4.push (some (.inr (.inr none)))).n = M4.n + 1 := rfl
  generalize hM5 : M4.push (some (.inr (.inr none))) = M5 at *
  have u6 := Up.push M5 (some (.inr (.inr (some rc))))
  have r6 : Rc (M5.push (some (.inr (.inr (some rc))))) (M4.n + 1) rc := by rw [← n5]; exact Store.get_push_eq _ _
  have n6 : (M5.push (some (.inr (.inr (some rc))))).n = M5.n + 1 := rfl
  generalize hM6 : M5.push (some (.inr (.inr (some rc)))) = M6 at *
  have u46 : Up M4 M6 := u5.trans u6
  have hbl := hob.lt
  have hJ0 : SJ M M6 M4.n M.n M1.n b w l 0 [] M6 :=
    { up := u4.trans u46, nb := Nat.le_refl _, out := ⟨.slice none 0 0, (o43.up hu4).up u46, NLs.nil⟩, end_ := (o53.up hu4).up u46, rc := ⟨rc, r6, hRC⟩, box := hob.up u46, by_ := Sl.up hby u46, at_ := rfl, all := rfl, df := u6.get d5 }
  show R F.fram_All_c1 #[.func (.yield (M4.n + 1)) #[] #[], .pointer (some ⟨b, 0, none⟩)] M6 _
  refine Allc1_ok (w := w) hl (SJ M M6 M4.n M.n M1.n b w l) (fun _ => False) hJ0 ?_ ?_ ?_ ?_ ?_
  · intro a d N N' hJ hN
    obtain ⟨q1, q2, ⟨lw, q3, q4⟩, q5, ⟨rc', q6, q7⟩, q8, q9, q10, q11, q12⟩ := hJ
    exact ⟨q1.trans hN, Nat.le_trans q2 hN.le, ⟨lw, q3.up hN, NLs.up By.up' q4 hN⟩, q5.up hN, ⟨rc', q6.up hN, q7⟩, q8.up hN, Sl.up q9 hN, q10, q11, hN.get q12⟩
  · intro a d N hJ; exact ⟨hJ.box, hJ.by_⟩
  · intro a d N x u hJ ho ha hu
    exact (SJ.round hl (by omega) ⟨by omega, by omega, by omega⟩ ⟨by omega, by omega, by omega⟩ ⟨by omega, by omega, by omega⟩ hJ ho ha hu).mono fun v M' hh => .inl hh
  · intro a d N hJ ho
    obtain ⟨q1, q2, ⟨lw, q3, q4⟩, q5, ⟨rc', q6, q7⟩, q8, q9, q10, q11, q12⟩ := hJ
    rw [scanF_eq, ho, List.append_nil] at q11
    subst q11
    have hst : rc'.st = .ready ∧ rc'.pe = 0 := by obtain ⟨f, _, _, rfl⟩ := q7; exact ⟨rfl, rfl⟩
    rw [q6.of, OP_some]
    refine ⟨by rw [hst.1]; decide, ?_⟩
    rw [hst.2]
    show P_fram_Scan_3 _ _ _ _ _
    have k7 := q6.keepI { rc' with st := .exhausted }
    have c7 := q6.ch { rc' with st := .exhausted }
    have d7 : (putRec N (M4.n + 1) { rc' with st := .exhausted }).get M4.n = some (.inr (.inr none)) := by
      have : (putRec N (M4.n + 1) { rc' with st := .exhausted }).get M4.n = N.get M4.n := Store.get_set_ne _ _ (by omega)
      rw [this, q12]
    rw [hst.2] at c7 d7 k7
    generalize putRec N (M4.n + 1) { st := .exhausted, pe := 0, tmps := rc'.tmps, params := rc'.params, assign := rc'.assign, body := rc'.body } = N1 at *
    apply T_fram_Scan_3
    unfold S_fram_Scan_3
    rw [(q3.keepI k7).ld (o := 0) rfl, OP_some]
    refine (ClipBB_ok (NLs.keepI By.keepI' q4 k7)).mono fun v2 N2 ⟨hN2, h2⟩ => ?_
    subst hN2
    refine ⟨Up.tdj (Ch.refl _ _) _ _, ?_⟩
    rw [(q5.keepI k7).ld (o := 0) rfl, OP_some]
    have ht : atake [{ target := .collected M4.n, args := #[] }] N2 = some (N2.set M4.n none) := by simp [atake, d7]
    rw [ht, OP_some]
    obtain ⟨a2, c2, rfl⟩ := ls_nts h2.ls
    refine ⟨rfl, hQ _ _ ⟨?_, _, rfl, ?_⟩⟩
    · exact Up.ch (Up.ch q1 c7 (fun c hc => by simp at hc; omega)) (Ch.set d7 _) (fun c hc => by simp at hc; omega)
    · exact (NLs.keepI By.keepI' h2 (KeepI.setR d7 _)).base (by omega)
  · intro N h; exact h.elim

end Go.G

namespace Go.G
open Go.Ab Go.Proofs Go.RowKit
set_option linter.unusedVariables false
set_option linter.unusedSimpArgs false

/-- A range over frames: the rounds change some boxes (S), and keep what is said of them (I). -/
theorem range_all {M0 M : Store} {b : Nat} {w : Value} {l : List UInt8} {rc : LRec} (hl : l.length ≤ 2 ^ 24) (hu : Up M0 M) (hob : Ob M b [w] Ty.sl_uint8) (hby : B M w l) (S : List Nat) (hS : ∀ s ∈ S, M0.n ≤ s ∧ s < M.n ∧ s ≠ b)
    (I : List (List UInt8) → Store → Prop) (hI : I [] M) (hIup : ∀ d N N', I d N → Up N N' → I d N') (hIS : ∀ d N, I d N → ∀ s ∈ S, ∃ cells T, N.get s = some (.inl (cells, T, true)) ∧ Ty.uint8 ≠ T)
    {K : Value → Store → Prop}
    (hround : ∀ d a N x u, I d N → Up M0 N → a = flen d → a + (x.length + 10) ≤ l.length → d ++ x :: scanF (l.drop (a + (x.length + 10))) = scanF l → B N u x → Rc N (M.n + 1) rc →
      RunsY Try.prog Ex (M.n + 1) #[.int .i64 (a : Int), u] N fun v N' => v = .bool true ∧ I (d ++ [x]) N' ∧ Rc N' (M.n + 1) rc ∧ Ch ((M.n + 1) :: S) N N')
    (hend : ∀ N, Up M0 N → I (scanF l) N → Rc N (M.n + 1) rc → N.get M.n = some (.inr (.inr none)) → K (.tuple #[]) N) :
    rfc Try.prog Ex (.func (.func F.fram_All_c1) #[] #[.pointer (some ⟨b, 0, none⟩)]) (M.n + 1) ((M.push (some (.inr (.inr none)))).push (some (.inr (.inr (some rc))))) K := by
  have u5 := Up.push M (some (.inr (.inr none)))
  have d5 : (M.push (some (.inr (.inr none)))).get M.n = some (.inr (.inr none)) := Store.get_push_eq _ _
  have n5 : (M.push (some (.inr (.inr none)))).n = M.n + 1 := rfl
  generalize M.push (some (.inr (.inr none))) = M5 at *
  have u6 := Up.push M5 (some (.inr (.inr (some rc))))
  have r6 : Rc (M5.push (some (.inr (.inr (some rc))))) (M.n + 1) rc := by rw [← n5]; exact Store.get_push_eq _ _
  have n6 : (M5.push (some (.inr (.inr (some rc))))).n = M5.n + 1 := rfl
  generalize M5.push (some (.inr (.inr (some rc)))) = M6 at *
  have u46 : Up M M6 := u5.trans u6
  have hbl := hob.lt
  show R F.fram_All_c1 #[.func (.yield (M.n + 1)) #[] #[], .pointer (some ⟨b, 0, none⟩)] M6 K
  refine Allc1_ok (w := w) hl (fun a d N => Up M0 N ∧ I d N ∧ Rc N (M.n + 1) rc ∧ Ob N b [w] Ty.sl_uint8 ∧ B N w l ∧ a = flen d ∧ d ++ scanF (l.drop a) = scanF l ∧ N.get M.n = some (.inr (.inr none))) (fun _ => False)
    ⟨hu.trans u46, hIup _ _ _ hI u46, r6, hob.up u46, Sl.up hby u46, rfl, rfl, u6.get d5⟩ ?_ ?_ ?_ ?_ ?_
  · rintro a d N N' ⟨h1, h2, h3, h4, h5, h6, h7, h8⟩ hN
    exact ⟨h1.trans hN, hIup _ _ _ h2 hN, h3.up hN, h4.up hN, Sl.up h5 hN, h6, h7, hN.get h8⟩
  · rintro a d N ⟨h1, h2, h3, h4, h5, h6, h7, h8⟩; exact ⟨h4, h5⟩
  · rintro a d N x u ⟨h1, h2, h3, h4, h5, h6, h7, h8⟩ ho ha hx
    have hall : d ++ x :: scanF (l.drop (a + (x.length + 10))) = scanF l := by
      rw [← h7, scanF_eq (l.drop a), ho]; simp only [List.drop_drop]
    refine (hround d a N x u h2 h1 h6 ha hall hx h3).mono fun v N' ⟨g1, g2, g3, g4⟩ => .inl ⟨g1, ?_⟩
    have hns : ∀ i, i < M.n → i ∉ S → i ∉ (M.n + 1) :: S := fun i hi hn hm => by
      rcases List.mem_cons.1 hm with h | h
      · omega
      · exact hn h
    have hmS : M.n ∉ (M.n + 1) :: S := fun hm => by
      rcases List.mem_cons.1 hm with h | h
      · omega
      · have := hS _ h; omega
    refine ⟨Up.ch h1 g4 fun c hc => ?_, g2, g3, g4.at h4 (hns b hbl fun hm => (hS b hm).2.2 rfl), ?_, ?_, ?_, g4.at h8 hmS⟩
    · have hle := hu.n
      rcases List.mem_cons.1 hc with h | h
      · omega
      · exact (hS c h).1
    · refine Sl.chS h5 g4 fun c hc => ?_
      rcases List.mem_cons.1 hc with h | h
      · subst h; exact .inr ⟨_, h3⟩
      · exact .inl (hIS d N h2 c h)
    · rw [flen_append, ← h6]; simp [flen]
    · rw [List.append_assoc]; exact hall
  · rintro a d N ⟨h1, h2, h3, h4, h5, h6, h7, h8⟩ ho
    rw [scanF_eq, ho, List.append_nil] at h7
    subst h7
    exact hend N h1 h2 h3 h8
  · intro N h; exact h.elim

/-! ## frames that are found -/
theorem numOf_be (k n : Nat) (h : n < 256 ^ k) : numOf (be k n) = n := by
  have : ∀ (k n m : Nat), n < 256 ^ k → (be k n).foldl (fun n c => n * 256 + c.toNat) m = m * 256 ^ k + n := by
    intro k
    induction k with
    | zero => intro n m h; simp [be]; simpa using h
    | succ k ih =>
      intro n m h
      have hpos : 0 < 256 ^ k := Nat.pow_pos (by omega)
      have hq : n / 256 ^ k < 256 := by rw [Nat.div_lt_iff_lt_mul hpos, Nat.mul_comm]; rw [Nat.pow_succ] at h; exact h
      have hbe : be k n = be k (n % 256 ^ k) := by
        have gen : ∀ (j : Nat), j ≤ k → be j n = be j (n % 256 ^ k) := by
          intro j
          induction j with
          | zero => intro _; rfl
          | succ j ihj =>
            intro hj
            simp only [be]
            rw [ihj (by omega)]
            congr 1
            have : 256 ^ k = 256 ^ j * 256 ^ (k - j) := by rw [← Nat.pow_add]; congr 1; omega
            rw [this, Nat.mod_mul_right_div_self]
            apply UInt8.toNat_inj.1
            simp only [UInt8.toNat_ofNat']
            have hd : 256 ∣ 256 ^ (k - j) := by
              obtain ⟨c, hc⟩ : ∃ c, k - j = c + 1 := ⟨k - j - 1, by omega⟩
              rw [hc, Nat.pow_succ]; exact Nat.dvd_mul_left _ _
            rw [Nat.mod_mod_of_dvd _ hd]
        exact gen k (Nat.le_refl _)
      simp only [be, List.foldl_cons]
      rw [hbe, ih _ _ (Nat.mod_lt _ hpos)]
      rw [UInt8.toNat_ofNat']
      have : n / 256 ^ k % 2 ^ 8 = n / 256 ^ k := Nat.mod_eq_of_lt hq
      rw [this, Nat.pow_succ]
      have := Nat.div_add_mod n (256 ^ k)
      have e : (m * 256 + n / 256 ^ k) * 256 ^ k = m * (256 ^ k * 256) + 256 ^ k * (n / 256 ^ k) := by
        rw [Nat.add_mul, Nat.mul_assoc, Nat.mul_comm 256 (256 ^ k), Nat.mul_comm (n / 256 ^ k)]
      omega
  have := this k n 0 h
  simpa [numOf] using this

theorem oneF_frm (x r : List UInt8) (h : x.length ≤ 10000) : oneF (frm x ++ r) = some x := by
  have e0 : frm x ++ r = be 6 x.length ++ (x ++ (sum4 (crc (be 6 x.length ++ x)) ++ r)) := by simp [frm]
  have e1 : (frm x ++ r).take 6 = be 6 x.length := by rw [e0, List.take_left' (be_length _ _)]
  have e2 : numOf ((frm x ++ r).take 6) = x.length := by rw [e1, numOf_be _ _ (by omega)]
  have e3 : (frm x ++ r).drop 6 = x ++ (sum4 (crc (be 6 x.length ++ x)) ++ r) := by rw [e0, List.drop_left' (be_length _ _)]
  have hl : (frm x ++ r).length = x.length + 10 + r.length := by rw [List.length_append, frm_length]
  have hb : rdBytes 10000 (frm x ++ r) false = some (x, sum4 (crc (be 6 x.length ++ x)) ++ r) := by
    refine rdBytes_iff.2 ⟨by omega, by omega, by omega, ?_, ?_⟩
    · rw [e2, e3, List.take_left' rfl]
    · rw [e2, ← List.drop_drop, e3, List.drop_left' rfl]
  simp only [oneF, hb, Option.bind_some]
  rw [if_neg (by simp [sum4]), if_pos]
  have e4 : (frm x ++ r).take (6 + x.length) = be 6 x.length ++ x := by
    rw [e0, ← List.append_assoc, List.take_left' (by simp [be_length])]
  rw [e4]; exact (List.take_left' rfl).symm

theorem scanF_frm (x r : List UInt8) (h : x.length ≤ 10000) : scanF (frm x ++ r) = x :: scanF r := by
  rw [scanF_eq, oneF_frm x r h]
  simp only
  rw [List.drop_left' (frm_length x)]
theorem scanF_short (r : List UInt8) (h : r.length < 10) : scanF r = [] := by
  rw [scanF_eq]
  cases ho : oneF r with
  | none => rfl
  | some x => have := oneF_len ho; omega

end Go.G

namespace Go.G
open Go.Ab Go.Proofs Go.RowKit
set_option linter.unusedVariables false
set_option linter.unusedSimpArgs false
set_option maxRecDepth 100000

/-- Bytes that are told to be bytes. -/
theorem conv_ok {M0 M : Store} (hu : Up M0 M) {v : Value} {l : List UInt8} (h : N M0 M v l) (hl : l ≠ []) {K : Value → Store → Prop} (hK : ∀ M', Up M0 M' → N M0 M' v l → KeepI M M' → K v M') : OP2 (cvId v M) K := by
  have hne : 0 < l.length := by cases l with | nil => exact absurd rfl hl | cons => simp
  obtain ⟨h1, ⟨h0, _⟩ | ⟨b, cells, c, rfl, h2, h3, h4, h5, h6⟩⟩ := h
  · omega
  · have e : cvId (.slice (some ⟨b, 0, none⟩) l.length c) M = some (.slice (some ⟨b, 0, none⟩) l.length c, M.set b (some (.inl (cells, Ty.uint8, true)))) := by
      simp only [cvId, h3]
      rw [if_pos hne]
    rw [e, OP2_some]
    have hob : Ob M b cells Ty.uint8 := h3
    have hk : KeepI M (M.set b (some (.inl (cells, Ty.uint8, true)))) := ⟨by simp, fun i x hi => by
      by_cases ei : i = b
      · subst ei; rw [Store.get_set_eq _ _ h3, ← h3, hi]
      · rw [Store.get_set_ne _ _ (Ne.symm ei), hi]⟩
    exact hK _ (hu.ch (Ch.setO hob _) fun c hc => by simp at hc; omega) ⟨h1, .inr ⟨b, cells, c, rfl, h2, Store.get_set_eq _ _ h3, h4, h5, h6⟩⟩ hk

theorem func_nil (t : TypeId) (ht : ∃ a b c, Try.prog.underlying t = some (.func a b c)) (f : Fn) (x y : Array Value) (K : Value → Prop) : OP (abin Try.prog true .eql t (.func f x y) .nilFunc) K = K (.bool false) := by
  obtain ⟨a, b, c, ht⟩ := ht
  have : abin Try.prog true .eql t (.func f x y) .nilFunc = some (.bool false) := by
    simp [abin, aeq, ht]
  rw [this]; rfl
theorem seq2_t : ∃ a b c, Try.prog.underlying Ty.iter_Seq2_int_sl_uint8 = some (.func a b c) := ⟨_, _, _, U.iter_Seq2_int_sl_uint8⟩

/-- Where each begins, and how long it is: the sum. -/
def asum (d : List (List UInt8)) : Nat := (d.foldl (fun (p : Nat × Nat) x => (p.1 + p.2 + x.length, p.2 + (x.length + 10))) (0, 0)).1
theorem asum_snoc (d : List (List UInt8)) (x : List UInt8) : asum (d ++ [x]) = asum d + flen d + x.length := by
  have : ∀ (d : List (List UInt8)) (a b : Nat), (d.foldl (fun (p : Nat × Nat) x => (p.1 + p.2 + x.length, p.2 + (x.length + 10))) (a, b)).2 = b + flen d := by
    intro d
    induction d with
    | nil => intro a b; rfl
    | cons y d ih => intro a b; rw [List.foldl_cons, ih]; simp [flen]; omega
  simp only [asum, List.foldl_append, List.foldl_cons, List.foldl_nil, this]
  simp

theorem awake3_round {m b4 : Nat} {rc : LRec} {d : List (List UInt8)} {a : Nat} {N : Store} {x : List UInt8} {u : Value} (hRC : RC_fettlelaw3_awake_1 (.pointer (some ⟨b4, 0, none⟩)) .ready 0 rc) (hrc : Rc N (m + 1) rc) (hne : b4 ≠ m + 1)
    (hb : Ob N b4 [.int .i64 (asum d : Nat)] Ty.int) (hx : B N u x) (ha : a = flen d) (hs : asum d ≤ 2 ^ 40) (hf : flen d ≤ 2 ^ 24) (hl : x.length ≤ 2 ^ 24) :
    RunsY Try.prog Ex (m + 1) #[.int .i64 (a : Int), u] N fun v N' => v = .bool true ∧ Ob N' b4 [.int .i64 (asum (d ++ [x]) : Nat)] Ty.int ∧ Rc N' (m + 1) rc ∧ Ch [m + 1, b4] N N' := by
  refine Y_fettlelaw3_awake_1 hrc.of hRC ?_
  unfold SY_fettlelaw3_awake_1
  have hst : rc.st = .ready ∧ rc.pe = 0 := by obtain ⟨f, _, rfl⟩ := hRC; exact ⟨rfl, rfl⟩
  rw [hrc.of, OP_some]
  refine ⟨hst.1, ?_⟩
  have hk1 := hrc.keepI { rc with st := .busy }
  have hc1 := hrc.ch { rc with st := .busy }
  have hrc1 := hrc.put { rc with st := .busy }
  generalize putRec N (m + 1) { rc with st := .busy } = N1 at *
  apply T_fettlelaw3_awake_2
  unfold S_fettlelaw3_awake_2
  have hb1 := hb.keepI hk1
  rw [hb1.ld (o := 0) rfl, OP_some, hx.lenV]
  simp only [ev]
  have e1 : IntKind.wrap .i64 (IntKind.wrap .i64 (((asum d : Nat) : Int) + (a : Int)) + (x.length : Int)) = ((asum (d ++ [x]) : Nat) : Int) := by
    rw [w64 (x := ((asum d : Nat) : Int) + (a : Int)) (by omega) (by omega), w64 (by omega) (by omega), asum_snoc]; omega
  rw [e1, hb1.st (o := 0) (by simp) rfl rfl, OP_some]
  have hc2 := Ch.setO hb1 (some (.inl ([Value.int .i64 (asum d : Nat)].set 0 (.int .i64 (asum (d ++ [x]) : Nat)), Ty.int, true)))
  have hb2 := hb1.setSt ([Value.int .i64 (asum d : Nat)].set 0 (.int .i64 (asum (d ++ [x]) : Nat)))
  have hg2 : ∀ i, i ≠ b4 → (N1.set b4 (some (.inl ([Value.int .i64 (asum d : Nat)].set 0 (.int .i64 (asum (d ++ [x]) : Nat)), Ty.int, true)))).get i = N1.get i := fun i hi => Store.get_set_ne _ _ (Ne.symm hi)
  generalize N1.set b4 (some (.inl ([Value.int .i64 (asum d : Nat)].set 0 (.int .i64 (asum (d ++ [x]) : Nat)), Ty.int, true))) = N2 at *
  have hrc2 : Rc N2 (m + 1) { rc with st := .busy } := by unfold Rc; rw [hg2 _ (Ne.symm hne)]; exact hrc1
  unfold YE
  rw [hrc2.of, OP_some]
  have hk3 := hrc2.keepI { rc with st := bif Nat.beq 0 0 then .ready else .done, pe := 0 }
  have hc3 := hrc2.ch { rc with st := bif Nat.beq 0 0 then .ready else .done, pe := 0 }
  have hrc3 := hrc2.put { rc with st := bif Nat.beq 0 0 then .ready else .done, pe := 0 }
  have hrce : { rc with st := bif Nat.beq 0 0 then .ready else .done, pe := 0 } = rc := by
    obtain ⟨s, p, t, ps, asg, bd⟩ := rc; simp only at hst; obtain ⟨rfl, rfl⟩ := hst; rfl
  refine ⟨rfl, hb2.keepI hk3, by rw [← hrce]; exact hrc3, ?_⟩
  exact ((hc1.mono (by simp)).trans (hc2.mono (by simp))).trans (hc3.mono (by simp))

theorem awake3_ok (M : Store) : R F.fettlelaw3_awake #[] M fun v M' => Up M M' ∧ v = .bool true := by
  refine R.cps fun Q hQ => ?_
  apply T_fettlelaw3_awake
  unfold S_fettlelaw3_awake
  have e97 : (.int .u8 97 : Value) = bv 97 := rfl
  rw [e_lit1]
  simp only [LT_eq]
  rw [e97]
  have hN1 : N M (M.push (some (.inl ([bv 97], Ty.uint8, true)))) (.slice (some ⟨M.n, 0, none⟩) 1 1) [97] := Nw.lit (n := 1) (Nat.le_refl _) rfl
  refine conv_ok (Up.push M _) hN1 (by simp) fun M2 hu2 h2 _ => ?_
  refine (Put_ok (l := []) (Sl.nil _ _ _) h2.by (by simp) (by simp)).mono fun v3 M3 ⟨hu3, h3⟩ => ?_
  rw [List.nil_append] at h3
  have hf1 := frm_length [97]
  refine (Put_ok (k := []) h3.by (Sl.nil _ _ _) (by rw [hf1]; simp) (by simp)).mono fun v4 M4 ⟨hu4, h4⟩ => ?_
  have hf0 := frm_length []
  have hL : (frm [97] ++ frm []).length = 21 := by rw [List.length_append, hf1, hf0]; rfl
  rw [e_lit0]
  refine copy0 h4.by (by rw [hL]; simp) fun v5 M5 hu5 h5 => ?_
  have e3 : ∀ K : List Value → Prop, OP (bldL (.int .u8 0) 1 3 [(0, (.int .u8 1)), (1, (.int .u8 2)), (2, (.int .u8 3))]) K = K [bv 1, bv 2, bv 3] := fun K => by kernel_rfl
  rw [e3]
  have h6 : N M4 (M5.push (some (.inl ([bv 1, bv 2, bv 3], Ty.uint8, true)))) (.slice (some ⟨M5.n, 0, none⟩) 3 3) [1, 2, 3] := Nw.lit (n := 3) hu5.le rfl
  obtain ⟨v7, M7, e7, hu7, h7, _⟩ := NB.app (hu5.push' _) (Nw.up h5 (Up.push M5 _)) h6.by (by rw [hL]; simp)
  rw [e7, OP2_some]
  refine (Scan_ok h7.by (by rw [List.length_append, hL]; simp)).mono fun r M8 ⟨hu8, w8, hr8, h8⟩ => ?_
  subst hr8
  have hs : scanF (frm [97] ++ frm [] ++ [1, 2, 3]) = [[97], []] := by
    rw [List.append_assoc, scanF_frm _ _ (by simp), scanF_frm _ _ (by simp), scanF_short _ (by simp)]
  rw [hs] at h8
  rw [hs]
  have t0 : (#[w8, Value.int .i64 ((flen [[97], []] : Nat) : Int)])[0]? = some w8 := rfl
  have t1 : (#[w8, Value.int .i64 ((flen [[97], []] : Nat) : Int)])[1]? = some (.int .i64 ((flen [[97], []] : Nat) : Int)) := rfl
  simp only [e_tup, t0, t1, ev]
  have ob9 := Ob.new M8 [.int .i64 0] Ty.int
  have u9 := Up.push M8 (some (.inl ([.int .i64 0], Ty.int, true)))
  have n9 : (M8.push (some (.inl ([.int .i64 0], Ty.int, true)))).n = M8.n + 1 := rfl
  generalize M8.push (some (.inl ([.int .i64 0], Ty.int, true))) = M9 at *
  rw [ob9.st (o := 0) (by simp) rfl rfl, OP_some]
  have c10 := Ch.setO ob9 (some (.inl ([Value.int .i64 0].set 0 (.int .i64 0), Ty.int, true)))
  have ob10 := ob9.setSt ([Value.int .i64 0].set 0 (.int .i64 0))
  have n10 : (M9.set M8.n (some (.inl ([Value.int .i64 0].set 0 (.int .i64 0), Ty.int, true)))).n = M9.n := by simp
  generalize M9.set M8.n (some (.inl ([Value.int .i64 0].set 0 (.int .i64 0), Ty.int, true))) = M10 at *
  have u810 : Up M8 M10 := u9.ch c10 fun c hc => by simp at hc; omega
  have huM8 : Up M M8 := ((hu2.trans (hu3.trans hu4)).trans hu7).trans hu8
  have h4' : B M10 v4 (frm [97] ++ frm []) := Sl.up (Sl.up (Sl.up h4.by hu7) hu8) u810
  refine (All_ok h4' (by rw [hL]; simp)).mono fun r11 M11 ⟨hu11, b, w, hr11, hbn, hob, hby⟩ => ?_
  subst hr11
  rw [func_nil _ seq2_t]
  simp only [ev]
  apply T_fettlelaw3_awake_1
  unfold S_fettlelaw3_awake_1
  intro rc hRC
  have hst : rc.st = .ready ∧ rc.pe = 0 := by obtain ⟨f, _, rfl⟩ := hRC; exact ⟨rfl, rfl⟩
  have hle := hu11.n
  have hs2 : scanF (frm [97] ++ frm []) = [[97], []] := by
    have := scanF_frm [] [] (by simp)
    rw [List.append_nil] at this
    rw [scanF_frm _ _ (by simp), this, scanF_short _ (by simp)]
  refine range_all (M0 := M8) (w := w) (l := frm [97] ++ frm []) (rc := rc) (by rw [hL]; simp) (u810.trans hu11) hob hby [M8.n] ?_ (fun d N => Ob N M8.n [.int .i64 (asum d : Nat)] Ty.int) (ob10.up hu11) ?_ ?_ ?_ ?_
  · intro s hs; simp at hs; subst hs; exact ⟨Nat.le_refl _, by omega, by omega⟩
  · intro d N N' h k; exact h.up k
  · intro d N h s hs; simp at hs; subst hs; exact ⟨_, _, h, ne3⟩
  · intro d a N x u hI hu ha hal hall hx hrc
    have hd : d.length ≤ 2 := by have := congrArg List.length hall; rw [hs2] at this; simp at this; omega
    have hfl : flen d ≤ 21 := by
      have h1 : flen (d ++ x :: scanF ((frm [97] ++ frm []).drop (a + (x.length + 10)))) = 21 := by rw [hall, hs2]; rfl
      rw [flen_append] at h1; omega
    have hxl : x.length ≤ 21 := by rw [hL] at hal; omega
    have hasum : asum d ≤ 2 ^ 40 := by
      rw [hs2] at hall
      match d, hall with
      | [], _ => simp [asum]
      | [y], h => simp only [List.cons_append, List.cons.injEq] at h; obtain ⟨rfl, _⟩ := h; simp [asum]
      | [y, z], h => simp at h
    exact awake3_round hRC hrc (by omega) hI hx ha hasum (by omega) (by omega)
  · intro N huN hI hrc hdf
    rw [hrc.of, OP_some]
    refine ⟨by rw [hst.1]; decide, ?_⟩
    rw [hst.2]
    show P_fettlelaw3_awake_3 _ _ _ _ _ _ _
    have k7 := hrc.keepI { rc with st := .exhausted }
    have c7 := hrc.ch { rc with st := .exhausted }
    have d7 : (putRec N (M11.n + 1) { rc with st := .exhausted }).get M11.n = some (.inr (.inr none)) := by
      have : (putRec N (M11.n + 1) { rc with st := .exhausted }).get M11.n = N.get M11.n := Store.get_set_ne _ _ (by omega)
      rw [this, hdf]
    rw [hst.2] at c7 d7 k7
    generalize putRec N (M11.n + 1) { st := .exhausted, pe := 0, tmps := rc.tmps, params := rc.params, assign := rc.assign, body := rc.body } = N1 at *
    have huN1 : Up M8 N1 := huN.ch c7 fun c hc => by simp at hc; omega
    apply T_fettlelaw3_awake_3
    unfold S_fettlelaw3_awake_3
    have h4N : B N1 v4 (frm [97] ++ frm []) := Sl.up (Sl.up (Sl.up h4.by hu7) hu8) huN1
    have h8N : Ls B Ty.sl_uint8 N1 w8 [[97], []] := (NLs.up By.up' h8 huN1).ls
    rw [hs2] at hI
    have hIN := hI.keepI k7
    obtain ⟨p0, q0, a0, b0, g0⟩ := h8N.at (i := 0) (by simp) .i64
    obtain ⟨p1, q1, a1, b1, g1⟩ := h8N.at (i := 1) (by simp) .i64
    have a0' : ixA 1 w8 (.int .i64 0) = some p0 := a0
    have a1' : ixA 1 w8 (.int .i64 1) = some p1 := a1
    have e0 : cvBS q0 N1 = some (.string ⟨#[97]⟩) := cvBS_ok g0
    have es : ∀ K : Value → Prop, OP (binS .eql (.string ⟨#[97]⟩) (.string ⟨#[97]⟩)) K = K (.bool true) := fun K => by
      have := str_eql [97] [97] K
      simpa using this
    have f21 : ((flen [[97], []] : Nat) : Int) = 21 := rfl
    have f12 : ((asum [[97], []] : Nat) : Int) = 12 := rfl
    rw [f12] at hIN
    have ht : atake [{ target := .collected M11.n, args := #[] }] N1 = some (N1.set M11.n none) := by simp [atake, d7]
    rw [h4N.lenV, hL, h8N.lenV, f21]
    have c21 : ((21 : Nat) : Int) = 21 := rfl
    have c2 : (([[97], []] : List (List UInt8)).length : Int) = 2 := rfl
    simp only [ev, c21, c2, decide_true, a0', b0, e0, es, a1', b1, g1.lenV, hIN.ld (o := 0) rfl, ht]
    have cn : ((([[97], []] : List (List UInt8))[1]).length : Int) = 0 := rfl
    rw [if_pos (show ((([[97], []] : List (List UInt8))[1]).length : Int) = 0 from rfl)]
    refine ⟨rfl, hQ _ _ ⟨?_, rfl⟩⟩
    exact Up.ch (huM8.trans huN1) (Ch.set d7 _) fun c hc => by simp at hc; have := huM8.n; omega

end Go.G

namespace Go.G
open Go.Ab Go.Proofs Go.RowKit
set_option linter.unusedVariables false
set_option linter.unusedSimpArgs false
set_option maxRecDepth 100000

theorem e_and16 (n : Int) (h1 : -9223372036854775808 ≤ n) (h2 : n ≤ 9223372036854775807) : ∃ k : Nat, k < 65536 ∧ binI .and (.int .i64 n) (.int .i64 65535) = some (.int .i64 (k : Int)) := by
  have h : binI .and (.int .i64 n) (.int .i64 65535) = some (.int .i64 (IntKind.wrap .i64 (BitVec.ofInt 64 n &&& BitVec.ofInt 64 65535).toNat)) := rfl
  have hk : (BitVec.ofInt 64 n &&& BitVec.ofInt 64 65535).toNat < 65536 := by
    rw [BitVec.toNat_and]
    have : (BitVec.ofInt 64 65535).toNat = 65535 := rfl
    rw [this]
    exact Nat.lt_of_le_of_lt Nat.and_le_right (by decide)
  refine ⟨_, hk, ?_⟩
  rw [h, w64 (by omega) (by omega)]
theorem e_rem (a b : Nat) (hb : 0 < b) : binI .rem (.int .i64 (a : Int)) (.int .i64 (b : Int)) = some (.int .i64 ((a % b : Nat) : Int)) := by
  have h : binI .rem (.int .i64 (a : Int)) (.int .i64 (b : Int)) = if (b : Int) = 0 then none else some (.int .i64 ((a : Int).tmod b)) := rfl
  rw [h, if_neg (by omega), Int.tmod_eq_emod_of_nonneg (by omega)]; rfl

/-- A byte of one's own slice is written. -/
theorem N.put {M0 M : Store} (hu : Up M0 M) {v : Value} {l : List UInt8} (h : N M0 M v l) {i : Nat} (hi : i < l.length) (k : IntKind) (x : UInt8) :
    ∃ p M', ixA 1 v (.int k (i : Int)) = some p ∧ st 1 p (bv x) M = some M' ∧ Up M0 M' ∧ N M0 M' v (l.set i x) ∧ ∃ b, M0.n ≤ b ∧ Ch [b] M M' ∧ (∃ cells, Ob M b cells Ty.uint8) := by
  obtain ⟨h1, ⟨h0, _⟩ | ⟨b, cells, c, rfl, h2, h3, h4, h5, h6⟩⟩ := h
  · omega
  · have hob : Ob M b cells Ty.uint8 := h3
    rw [Nat.mul_one] at h4 h5
    refine ⟨.pointer (some ⟨b, 0 + i * 1, none⟩), M.set b (some (.inl (cells.set i (bv x), Ty.uint8, true))), ?_, ?_, hu.ch (Ch.setO hob _) (fun c hc => by simp at hc; omega), ⟨by simp, .inr ⟨b, cells.set i (bv x), c, by rw [List.length_set], h2, hob.setSt _, by rw [List.length_set, List.length_set]; omega, ?_, by rw [List.length_set]; exact h6⟩⟩, b, h2, Ch.setO hob _, cells, hob⟩
    · simp only [ixA]; rw [if_pos ⟨by omega, by omega, trivial⟩]; simp
    · rw [show 0 + i * 1 = i by omega]; exact hob.st (by omega) rfl rfl
    · rw [List.length_set, Nat.mul_one, List.take_set, h5, List.map_set]

theorem flen_cons (x : List UInt8) (r : List (List UInt8)) : flen (x :: r) = x.length + 10 + flen r := by simp [flen]
theorem flen_one (x : List UInt8) : flen [x] = x.length + 10 := by simp [flen]
structure FJ (M0 : Store) (b8 b16 b18 b19 : Nat) (mv : Value) (l : List UInt8) (d : List (List UInt8)) (M : Store) : Prop where
  o8 : Ob M b8 [.bool false] Ty.bool
  o16 : Ob M b16 [mv] Ty.sl_sl_uint8
  o18 : Ob M b18 [.int .i64 (d.length : Nat)] Ty.int
  o19 : Ob M b19 [.int .i64 (flen d : Nat)] Ty.int
  m : Ls B Ty.sl_uint8 M mv (scanF l)

theorem L3_round {m b8 b16 b18 b19 : Nat} {rc : LRec} {M0 : Store} {mv : Value} {l : List UInt8} (hl : l.length ≤ 2 ^ 24) {d : List (List UInt8)} {a : Nat} {N : Store} {x : List UInt8} {u : Value}
    (hRC : RC_fettlelaw3_FramTells_5 (.pointer (some ⟨b8, 0, none⟩)) (.pointer (some ⟨b16, 0, none⟩)) (.pointer (some ⟨b18, 0, none⟩)) (.pointer (some ⟨b19, 0, none⟩)) .ready 0 rc) (hrc : Rc N (m + 1) rc)
    (hne : b8 ≠ m + 1 ∧ b16 ≠ m + 1 ∧ b18 ≠ m + 1 ∧ b19 ≠ m + 1) (hd : b18 ≠ b19 ∧ b18 ≠ b16 ∧ b19 ≠ b16 ∧ b8 ≠ b18 ∧ b8 ≠ b19)
    (hI : FJ M0 b8 b16 b18 b19 mv l d N) (hx : B N u x) (ha : a = flen d) {r : List (List UInt8)} (hall : d ++ x :: r = scanF l) :
    RunsY Try.prog Ex (m + 1) #[.int .i64 (a : Int), u] N fun v N' => v = .bool true ∧ FJ M0 b8 b16 b18 b19 mv l (d ++ [x]) N' ∧ Rc N' (m + 1) rc ∧ Ch ((m + 1) :: [b18, b19]) N N' := by
  refine Y_fettlelaw3_FramTells_5 hrc.of hRC ?_
  unfold SY_fettlelaw3_FramTells_5
  have hst : rc.st = .ready ∧ rc.pe = 0 := by obtain ⟨f, _, _, _, _, rfl⟩ := hRC; exact ⟨rfl, rfl⟩
  rw [hrc.of, OP_some]
  refine ⟨hst.1, ?_⟩
  have hk1 := hrc.keepI { rc with st := .busy }
  have hc1 := hrc.ch { rc with st := .busy }
  have hrc1 := hrc.put { rc with st := .busy }
  generalize putRec N (m + 1) { rc with st := .busy } = N1 at *
  obtain ⟨o8, o16, o18, o19, hm⟩ := hI
  have o8' := o8.keepI hk1
  have o16' := o16.keepI hk1
  have o18' := o18.keepI hk1
  have o19' := o19.keepI hk1
  have hm' := hm.keepI By.keepI' hk1
  have hx' := hx.keepI hk1
  have hcnt := scanF_count l
  have hfl := scanF_flen l
  have hlen : (scanF l).length = d.length + 1 + r.length := by rw [← hall]; simp; omega
  have hflx : flen d + (x.length + 10) + flen r = flen (scanF l) := by rw [← hall, flen_append, flen_cons]; omega
  apply T_fettlelaw3_FramTells_6
  unfold S_fettlelaw3_FramTells_6
  obtain ⟨p, q, p1, p2, p3⟩ := hm'.at (i := d.length) (by omega) .i64
  have hxe : (scanF l)[d.length]'(by omega) = x := by
    have : (scanF l)[d.length]? = some x := by rw [← hall]; simp
    exact (List.getElem?_eq_some_iff.1 this).2
  rw [hxe] at p3
  have es : ∀ K : Value → Prop, OP (binS .neq (.string ⟨x.toArray⟩) (.string ⟨x.toArray⟩)) K = K (.bool false) := fun K => by rw [str_neq]; simp
  rw [o18'.ld (o := 0) rfl, OP_some, o16'.ld (o := 0) rfl, OP_some, hm'.lenV, OP_some, e_geq, BR_dec, if_neg (show ¬ (((d.length : Nat) : Int) ≥ ((scanF l).length : Int)) by omega), o19'.ld (o := 0) rfl, OP_some, e_neq, BR_dec, if_neg (show ¬ ((a : Int) ≠ ((flen d : Nat) : Int)) by rw [ha]; simp),
    cvBS_ok hx', OP_some, OP_some, OP_some, p1, OP_some, p2, OP_some, cvBS_ok p3, OP_some, es, BR_false, OP_some, e_add, hx'.lenV, OP_some, e_add]
  have e1 : IntKind.wrap .i64 (IntKind.wrap .i64 (((flen d : Nat) : Int) + 10) + (x.length : Int)) = ((flen (d ++ [x]) : Nat) : Int) := by
    rw [w64 (x := ((flen d : Nat) : Int) + 10) (by omega) (by omega), w64 (by omega) (by omega), flen_append, flen_one]; omega
  rw [e1, o19'.st (o := 0) (by simp) rfl rfl, OP_some]
  have c2 := Ch.setO o19' (some (.inl ([Value.int .i64 (flen d : Nat)].set 0 (.int .i64 (flen (d ++ [x]) : Nat)), Ty.int, true)))
  have q19 := o19'.setSt ([Value.int .i64 (flen d : Nat)].set 0 (.int .i64 (flen (d ++ [x]) : Nat)))
  have g2 : ∀ i, i ≠ b19 → (N1.set b19 (some (.inl ([Value.int .i64 (flen d : Nat)].set 0 (.int .i64 (flen (d ++ [x]) : Nat)), Ty.int, true)))).get i = N1.get i := fun i hi => Store.get_set_ne _ _ (Ne.symm hi)
  have k2 := c2.keepT o19'
  generalize N1.set b19 (some (.inl ([Value.int .i64 (flen d : Nat)].set 0 (.int .i64 (flen (d ++ [x]) : Nat)), Ty.int, true))) = N2 at *
  have q18 := o18'.same (g2 b18 hd.1)
  rw [q18.ld (o := 0) rfl, OP_some, e_add]
  have e2 : IntKind.wrap .i64 (((d.length : Nat) : Int) + 1) = (((d ++ [x]).length : Nat) : Int) := by rw [w64 (by omega) (by omega)]; simp
  rw [e2, q18.st (o := 0) (by simp) rfl rfl, OP_some]
  have c3 := Ch.setO q18 (some (.inl ([Value.int .i64 (d.length : Nat)].set 0 (.int .i64 ((d ++ [x]).length : Nat)), Ty.int, true)))
  have r18 := q18.setSt ([Value.int .i64 (d.length : Nat)].set 0 (.int .i64 ((d ++ [x]).length : Nat)))
  have g3 : ∀ i, i ≠ b18 → (N2.set b18 (some (.inl ([Value.int .i64 (d.length : Nat)].set 0 (.int .i64 ((d ++ [x]).length : Nat)), Ty.int, true)))).get i = N2.get i := fun i hi => Store.get_set_ne _ _ (Ne.symm hi)
  have k3 := c3.keepT q18
  generalize N2.set b18 (some (.inl ([Value.int .i64 (d.length : Nat)].set 0 (.int .i64 ((d ++ [x]).length : Nat)), Ty.int, true))) = N3 at *
  have hrc3 : Rc N3 (m + 1) { rc with st := .busy } := by unfold Rc; rw [g3 _ (Ne.symm hne.2.2.1), g2 _ (Ne.symm hne.2.2.2)]; exact hrc1
  unfold YE
  rw [hrc3.of, OP_some]
  have hk4 := hrc3.keepI { rc with st := bif Nat.beq 0 0 then .ready else .done, pe := 0 }
  have hc4 := hrc3.ch { rc with st := bif Nat.beq 0 0 then .ready else .done, pe := 0 }
  have hrc4 := hrc3.put { rc with st := bif Nat.beq 0 0 then .ready else .done, pe := 0 }
  have hrce : { rc with st := bif Nat.beq 0 0 then .ready else .done, pe := 0 } = rc := by
    obtain ⟨s, p, t, ps, asg, bd⟩ := rc; simp only at hst; obtain ⟨rfl, rfl⟩ := hst; rfl
  refine ⟨rfl, ⟨?_, ?_, ?_, ?_, ?_⟩, by rw [← hrce]; exact hrc4, ?_⟩
  · exact ((o8'.same (g2 b8 hd.2.2.2.2)).same (g3 b8 hd.2.2.2.1)).keepI hk4
  · exact ((o16'.same (g2 b16 (Ne.symm hd.2.2.1))).same (g3 b16 (Ne.symm hd.2.1))).keepI hk4
  · exact r18.keepI hk4
  · exact (q19.same (g3 b19 (Ne.symm hd.1))).keepI hk4
  · exact ((hm'.keep (By.keep' ne3) ne4 k2).keep (By.keep' ne3) ne4 k3).keepI By.keepI' hk4
  · exact (((hc1.mono (by simp)).trans (c2.mono (by simp))).trans (c3.mono (by simp))).trans (hc4.mono (by simp))

/-- Deferred blocks that are to be shut. -/
def Dfs (M0 : Store) (ds : List Deferred) (M : Store) : Prop := ∃ ms : List Nat, ds = ms.map (fun m => { target := .collected m, args := #[] }) ∧ ms.Nodup ∧ ∀ m ∈ ms, M0.n ≤ m ∧ M.get m = some (.inr (.inr none))
theorem Dfs.nil (M0 M : Store) : Dfs M0 [] M := ⟨[], rfl, List.nodup_nil, fun _ h => by cases h⟩
theorem Dfs.up {M0 M M' : Store} {ds : List Deferred} (h : Dfs M0 ds M) (k : Up M M') : Dfs M0 ds M' := by
  obtain ⟨ms, h1, h2, h3⟩ := h
  exact ⟨ms, h1, h2, fun m hm => ⟨(h3 m hm).1, k.get (h3 m hm).2⟩⟩
theorem Dfs.cons {M0 M : Store} {ds : List Deferred} (h : Dfs M0 ds M) {m : Nat} (hm : M.get m = some (.inr (.inr none))) (h0 : M0.n ≤ m) (hn : ∀ k, ({ target := .collected k, args := #[] } : Deferred) ∈ ds → k ≠ m) : Dfs M0 ({ target := .collected m, args := #[] } :: ds) M := by
  obtain ⟨ms, rfl, h2, h3⟩ := h
  refine ⟨m :: ms, rfl, List.nodup_cons.2 ⟨fun hk => hn m (List.mem_map.2 ⟨m, hk, rfl⟩) rfl, h2⟩, fun k hk => ?_⟩
  rcases List.mem_cons.1 hk with rfl | hk
  · exact ⟨h0, hm⟩
  · exact h3 k hk
theorem Dfs.take {M0 : Store} : ∀ {ds : List Deferred} {M : Store}, Up M0 M → Dfs M0 ds M → ∃ M', atake ds M = some M' ∧ Up M0 M' ∧ KeepI M M'
  | [], M, hu, _ => ⟨M, rfl, hu, Nat.le_refl _, fun _ _ h => h⟩
  | d :: ds, M, hu, ⟨ms, h1, h2, h3⟩ => by
    cases ms with
    | nil => cases h1
    | cons m ms =>
      simp only [List.map_cons, List.cons.injEq] at h1
      obtain ⟨rfl, rfl⟩ := h1
      obtain ⟨h4, h5⟩ := h3 m List.mem_cons_self
      rw [List.nodup_cons] at h2
      obtain ⟨M', g1, g2, g3⟩ := Dfs.take (M0 := M0) (ds := ms.map fun m => { target := .collected m, args := #[] }) (M := M.set m none) (Up.ch hu (Ch.set h5 _) fun c hc => by simp at hc; omega)
        ⟨ms, rfl, h2.2, fun k hk => ⟨(h3 k (List.mem_cons_of_mem _ hk)).1, by rw [Store.get_set_ne _ _ (fun e => h2.1 (by rw [e]; exact hk))]; exact (h3 k (List.mem_cons_of_mem _ hk)).2⟩⟩
      exact ⟨M', by simp only [atake, h5]; exact g1, g2, (KeepI.setR h5 _).trans g3⟩
theorem Dfs.lt {M0 M : Store} {ds : List Deferred} (h : Dfs M0 ds M) {k : Nat} (hk : ({ target := .collected k, args := #[] } : Deferred) ∈ ds) : k < M.n := by
  obtain ⟨ms, rfl, h2, h3⟩ := h
  obtain ⟨m, hm, he⟩ := List.mem_map.1 hk
  simp only [Deferred.mk.injEq, Target.collected.injEq, and_true] at he
  subst he
  exact M.lt_of_get (h3 m hm).2

theorem L3_end {M0 M : Store} {b8 : Nat} {ds : List Deferred} (hu : Up M0 M) (h0 : M0.n ≤ b8) (o8 : Ob M b8 [.bool false] Ty.bool) (hds : Dfs M0 ds M) {Q : Value → Store → Prop} (hQ : ∀ M', Up M0 M' → Q (.bool true) M') : P_fettlelaw3_FramTells_4 ds (.pointer (some ⟨b8, 0, none⟩)) M Q := by
  apply T_fettlelaw3_FramTells_4
  unfold S_fettlelaw3_FramTells_4
  refine (awake3_ok M).mono fun v M1 ⟨hu1, hv⟩ => ?_
  subst hv
  have o81 := o8.up hu1
  rw [o81.st (o := 0) (by simp) rfl rfl, OP_some]
  have c2 := Ch.setO o81 (some (.inl ([Value.bool false].set 0 (.bool true), Ty.bool, true)))
  have o82 := o81.setSt ([Value.bool false].set 0 (.bool true))
  have hu2 : Up M0 (M1.set b8 (some (.inl ([Value.bool false].set 0 (.bool true), Ty.bool, true)))) := Up.ch (hu.trans hu1) c2 fun c hc => by simp at hc; omega
  have hds2 : Dfs M0 ds (M1.set b8 (some (.inl ([Value.bool false].set 0 (.bool true), Ty.bool, true)))) := by
    obtain ⟨ms, h1, h2, h3⟩ := hds.up hu1
    refine ⟨ms, h1, h2, fun m hm => ⟨(h3 m hm).1, ?_⟩⟩
    rw [Store.get_set_ne _ _ (fun e => ?_)]
    · exact (h3 m hm).2
    · subst e; have := (h3 _ hm).2; rw [show M1.get b8 = _ from o81] at this; injection this with this; cases this
  obtain ⟨M3, h3, hu3, hk3⟩ := hds2.take hu2
  rw [h3, OP_some, (o82.keepI hk3).ld (o := 0) rfl, OP_some]
  exact ⟨rfl, hQ _ hu3⟩

theorem L3_loop {M0 : Store} {b8 : Nat} {x69 : Value} {xs : List (List UInt8)} (hxs : ∀ x ∈ xs, x.length ≤ 2 ^ 24) (h0 : M0.n ≤ b8) (hxl : xs.length ≤ 100) {Q : Value → Store → Prop} (hQ : ∀ M', Up M0 M' → Q (.bool true) M') :
    ∀ (k i : Nat) (ds : List Deferred) (M : Store), k + i = xs.length → Up M0 M → Ob M b8 [.bool false] Ty.bool → Ls B Ty.sl_uint8 M x69 xs → Dfs M0 ds M →
    P_fettlelaw3_FramTells_2 ds (.pointer (some ⟨b8, 0, none⟩)) x69 (.int .i64 (xs.length : Int)) (.int .i64 (i : Int)) M Q := by
  intro k
  induction k with
  | zero =>
    intro i ds M hi hu o8 hls hds
    apply T_fettlelaw3_FramTells_2
    unfold S_fettlelaw3_FramTells_2
    simp (disch := omega) only [ev, if_neg]
    exact L3_end hu h0 o8 hds hQ
  | succ k ih =>
    intro i ds M hi hu o8 hls hds
    apply T_fettlelaw3_FramTells_2
    unfold S_fettlelaw3_FramTells_2
    simp (disch := omega) only [ev, if_pos]
    apply T_fettlelaw3_FramTells_3
    unfold S_fettlelaw3_FramTells_3
    obtain ⟨p, q, p1, p2, p3⟩ := hls.at (i := i) (by omega) .i64
    have hxl := hxs _ (List.getElem_mem (show i < xs.length by omega))
    generalize hl : xs[i]'(by omega) = l at *
    rw [p1, OP_some, p2, OP_some]
    refine (Scan_ok p3 hxl).mono fun r1 M1 ⟨hu1, w1, hr1, hw1⟩ => ?_
    subst hr1
    have t0 : ∀ w : Value, (#[w, Value.int .i64 ((flen (scanF l) : Nat) : Int)])[0]? = some w := fun _ => rfl
    have t1 : ∀ w : Value, (#[w, Value.int .i64 ((flen (scanF l) : Nat) : Int)])[1]? = some (.int .i64 ((flen (scanF l) : Nat) : Int)) := fun _ => rfl
    simp only [e_tup, t0, t1, OP_some]
    refine (RScan_ok (Sl.up p3 hu1) hxl).mono fun r2 M2 ⟨hu2, w2, hr2, hw2⟩ => ?_
    subst hr2
    simp only [e_tup, t0, t1, OP_some, LT_eq]
    have u3 := Up.push M2 (some (.inl ([.slice none 0 0], Ty.sl_sl_uint8, true)))
    have b16 := Ob.new M2 [.slice none 0 0] Ty.sl_sl_uint8
    have n3 : (M2.push (some (.inl ([.slice none 0 0], Ty.sl_sl_uint8, true)))).n = M2.n + 1 := rfl
    generalize M2.push (some (.inl ([.slice none 0 0], Ty.sl_sl_uint8, true))) = M3 at *
    obtain ⟨a2, c2, rfl⟩ := ls_nts hw2.ls
    rw [b16.st (o := 0) (by simp) rfl rfl, OP_some]
    have c4 := Ch.setO b16 (some (.inl ([Value.slice none 0 0].set 0 (.slice a2 (scanF l).length c2), Ty.sl_sl_uint8, true)))
    have b164 := b16.setSt ([Value.slice none 0 0].set 0 (.slice a2 (scanF l).length c2))
    have n4 : (M3.set M2.n (some (.inl ([Value.slice none 0 0].set 0 (.slice a2 (scanF l).length c2), Ty.sl_sl_uint8, true)))).n = M3.n := by simp
    generalize M3.set M2.n (some (.inl ([Value.slice none 0 0].set 0 (.slice a2 (scanF l).length c2), Ty.sl_sl_uint8, true))) = M4 at *
    have u24 : Up M2 M4 := u3.ch c4 fun c hc => by simp at hc; omega
    have uM4 : Up M M4 := (hu1.trans hu2).trans u24
    rw [e_neq, BR_dec, if_neg (by simp), b164.ld (o := 0) rfl, OP_some]
    have hw24 : Ls B Ty.sl_uint8 M4 (.slice a2 (scanF l).length c2) (scanF l) := (NLs.up By.up' hw2 u24).ls
    have hw14 : Ls B Ty.sl_uint8 M4 w1 (scanF l) := (NLs.up By.up' (NLs.up By.up' hw1 hu2) u24).ls
    have hcnt := scanF_count l
    refine (Same_ok hw14 hw24 (by omega) (by omega)).mono fun v5 M5 ⟨hM5, hv5⟩ => ?_
    subst hM5; subst hv5
    rw [e_not, decide_eq_true rfl]
    simp only [Bool.not_true, BR_false]
    have u6 := Up.push M5 (some (.inl ([.int .i64 0], Ty.int, true)))
    have b18 := Ob.new M5 [.int .i64 0] Ty.int
    have n6 : (M5.push (some (.inl ([.int .i64 0], Ty.int, true)))).n = M5.n + 1 := rfl
    generalize M5.push (some (.inl ([.int .i64 0], Ty.int, true))) = M6 at *
    have u7 := Up.push M6 (some (.inl ([.int .i64 0], Ty.int, true)))
    have b19 := Ob.new M6 [.int .i64 0] Ty.int
    have n7 : (M6.push (some (.inl ([.int .i64 0], Ty.int, true)))).n = M6.n + 1 := rfl
    generalize M6.push (some (.inl ([.int .i64 0], Ty.int, true))) = M7 at *
    have b187 := b18.up u7
    rw [b187.st (o := 0) (by simp) rfl rfl, OP_some]
    have c8 := Ch.setO b187 (some (.inl ([Value.int .i64 0].set 0 (.int .i64 0), Ty.int, true)))
    have b188 := b187.setSt ([Value.int .i64 0].set 0 (.int .i64 0))
    have g8 : ∀ j, j ≠ M5.n → (M7.set M5.n (some (.inl ([Value.int .i64 0].set 0 (.int .i64 0), Ty.int, true)))).get j = M7.get j := fun j hj => Store.get_set_ne _ _ (Ne.symm hj)
    have n8 : (M7.set M5.n (some (.inl ([Value.int .i64 0].set 0 (.int .i64 0), Ty.int, true)))).n = M7.n := by simp
    generalize M7.set M5.n (some (.inl ([Value.int .i64 0].set 0 (.int .i64 0), Ty.int, true))) = M8 at *
    have b198 := b19.same (g8 M6.n (by omega))
    rw [b198.st (o := 0) (by simp) rfl rfl, OP_some]
    have c9 := Ch.setO b198 (some (.inl ([Value.int .i64 0].set 0 (.int .i64 0), Ty.int, true)))
    have b199 := b198.setSt ([Value.int .i64 0].set 0 (.int .i64 0))
    have g9 : ∀ j, j ≠ M6.n → (M8.set M6.n (some (.inl ([Value.int .i64 0].set 0 (.int .i64 0), Ty.int, true)))).get j = M8.get j := fun j hj => Store.get_set_ne _ _ (Ne.symm hj)
    have n9 : (M8.set M6.n (some (.inl ([Value.int .i64 0].set 0 (.int .i64 0), Ty.int, true)))).n = M8.n := by simp
    generalize M8.set M6.n (some (.inl ([Value.int .i64 0].set 0 (.int .i64 0), Ty.int, true))) = M9 at *
    have b189 := b188.same (g9 M5.n (by omega))
    have u59 : Up M5 M9 := Up.ch (Up.ch (u6.trans u7) c8 fun c hc => by simp at hc; omega) c9 fun c hc => by simp at hc; omega
    have uM9 : Up M M9 := uM4.trans u59
    refine (All_ok (Sl.up p3 uM9) hxl).mono fun r10 M10 ⟨hu10, b, w, hr10, hbn, hob, hby⟩ => ?_
    subst hr10
    rw [func_nil _ seq2_t]
    simp only [BR_false]
    have u510 : Up M5 M10 := u59.trans hu10
    have uM10 : Up M M10 := uM9.trans hu10
    have hle10 := hu10.n
    have hle5 := uM4.n
    have hle0 := hu.n
    have hl24 : M2.n ≤ M5.n := u24.n
    have hlM2 : M.n ≤ M2.n := (hu1.trans hu2).n
    have h8lt := o8.lt
    have hJ0 : FJ M0 b8 M2.n M5.n M6.n (.slice a2 (scanF l).length c2) l [] M10 :=
      ⟨o8.up uM10, b164.up u510, b189.up hu10, b199.up hu10, hw24.up By.up' u510⟩
    apply T_fettlelaw3_FramTells_5
    unfold S_fettlelaw3_FramTells_5
    intro rc hRC
    have hst : rc.st = .ready ∧ rc.pe = 0 := by obtain ⟨f, _, _, _, _, rfl⟩ := hRC; exact ⟨rfl, rfl⟩
    refine range_all (M0 := M) (w := w) (l := l) (rc := rc) hxl uM10 hob hby [M5.n, M6.n] ?_ (fun d N => FJ M0 b8 M2.n M5.n M6.n (.slice a2 (scanF l).length c2) l d N) hJ0 ?_ ?_ ?_ ?_
    · intro s hs
      simp only [List.mem_cons, List.not_mem_nil, or_false] at hs
      rcases hs with rfl | rfl
      · exact ⟨by omega, by omega, by omega⟩
      · exact ⟨by omega, by omega, by omega⟩
    · intro d N N' h k; exact ⟨h.o8.up k, h.o16.up k, h.o18.up k, h.o19.up k, h.m.up By.up' k⟩
    · intro d N h s hs
      simp only [List.mem_cons, List.not_mem_nil, or_false] at hs
      rcases hs with rfl | rfl
      · exact ⟨_, _, h.o18, ne3⟩
      · exact ⟨_, _, h.o19, ne3⟩
    · intro d a N x u hI huN ha hal hall hx hrc
      exact L3_round (M0 := M0) hxl hRC hrc ⟨by omega, by omega, by omega, by omega⟩ ⟨by omega, by omega, by omega, by omega, by omega⟩ hI hx ha hall
    · intro N huN hI hrc hdf
      rw [hrc.of, OP_some]
      refine ⟨by rw [hst.1]; decide, ?_⟩
      rw [hst.2]
      show P_fettlelaw3_FramTells_7 _ _ _ _ _ _ _ _ _
      have k7 := hrc.keepI { rc with st := .exhausted }
      have c7 := hrc.ch { rc with st := .exhausted }
      have d7 : (putRec N (M10.n + 1) { rc with st := .exhausted }).get M10.n = some (.inr (.inr none)) := by
        have : (putRec N (M10.n + 1) { rc with st := .exhausted }).get M10.n = N.get M10.n := Store.get_set_ne _ _ (by omega)
        rw [this, hdf]
      rw [hst.2] at c7 d7 k7
      generalize putRec N (M10.n + 1) { st := .exhausted, pe := 0, tmps := rc.tmps, params := rc.params, assign := rc.assign, body := rc.body } = N1 at *
      have huN1 : Up M N1 := huN.ch c7 fun c hc => by simp at hc; have := uM10.n; omega
      apply T_fettlelaw3_FramTells_7
      unfold S_fettlelaw3_FramTells_7
      rw [(hI.o18.keepI k7).ld (o := 0) rfl, OP_some, (hI.o16.keepI k7).ld (o := 0) rfl, OP_some, e_lenV, e_neq, BR_dec, if_neg (by simp)]
      apply T_fettlelaw3_FramTells_8
      unfold S_fettlelaw3_FramTells_8
      rw [e_add, w64 (by omega) (by omega)]
      refine ih (i + 1) _ N1 (by omega) (hu.trans huN1) (o8.up huN1) (hls.up By.up' huN1) ((hds.up huN1).cons d7 (by have := uM10.n; omega) fun k hk => ?_)
      have := hds.lt hk
      have := uM10.n
      omega

end Go.G

namespace Go.G
open Go.Ab Go.Proofs Go.RowKit
set_option linter.unusedVariables false
set_option linter.unusedSimpArgs false
set_option maxRecDepth 100000

theorem tdj_app {js Ns : List Nat} {v : Value} {M M' : Store} (h : Ch (kl v) M M') {j : Nat} (hj : j ∈ js) (hk : ∀ b, kil v = some b → (M.get b).isSome = true ∧ Ns.getD j 0 ≤ b ∧ b < Ns.getD (j + 1) 0) : TDj js Ns M M' := by
  refine ⟨h.n, fun b hb => ?_⟩
  rcases h.tdiff b hb with h1 | h1
  · exact .inl h1
  · have h2 : kil v = some b := by
      cases hk' : kil v with
      | none => simp [kl, hk'] at h1
      | some c => simp [kl, hk'] at h1; rw [h1]
    obtain ⟨h3, h4⟩ := hk b h2
    exact .inr ⟨h3, j, hj, h4⟩
theorem Nw.kil_in {s e Mb M v n cs} (h : Nw s e Mb M v n cs) {i : Nat} (hi : kil v = some i) : Mb.n ≤ i ∧ i < M.n ∧ (M.get i).isSome = true := by
  refine ⟨h.kil_ge hi, ?_⟩
  obtain ⟨h1, ⟨rfl, a, rfl, h2⟩ | ⟨b, cells, c, rfl, h2, h3, h4⟩⟩ := h
  · cases a <;> simp [kil] at hi
  · simp only [kil] at hi
    split at hi
    · cases hi
    · injection hi with hi; subst hi; exact ⟨M.lt_of_get h3, by rw [h3]; rfl⟩
/-- An empty literal. -/
theorem N.lit0 (M0 M : Store) (a : Option Addr) (h : ∀ x, a = some x → x.spot = none) : N M0 M (.slice a 0 0) [] := ⟨by simp, .inl ⟨rfl, a, rfl, h⟩⟩

theorem e_lit5s (z : Value) (a b c d e : Option Addr) (n1 c1 n2 c2 n3 c3 n4 c4 n5 c5 : Nat) (K : List Value → Prop) : OP (bldL z 1 5 [(0, .slice a n1 c1), (1, .slice b n2 c2), (2, .slice c n3 c3), (3, .slice d n4 c4), (4, .slice e n5 c5)]) K = K [.slice a n1 c1, .slice b n2 c2, .slice c n3 c3, .slice d n4 c4, .slice e n5 c5] := by kernel_rfl

theorem L3_mid {M0 M : Store} {b8 : Nat} {x0 x9 x10 : Value} {raw bb u : List UInt8} {k : Nat} (hu : Up M0 M) (h0 : M0.n ≤ b8) (o8 : Ob M b8 [.bool false] Ty.bool) (hraw : B M x0 raw) (hb : B M x9 bb) (hu10 : B M x10 u) (hk : k ≤ bb.length)
    (l1 : raw.length ≤ 2 ^ 22) (l2 : bb.length ≤ 2 ^ 22) (l3 : u.length ≤ 2 ^ 22) {Q : Value → Store → Prop} (hQ : ∀ M', Up M0 M' → Q (.bool true) M') :
    P_fettlelaw3_FramTells_1 [] x0 (.pointer (some ⟨b8, 0, none⟩)) x9 x10 (.int .i64 (k : Int)) M Q := by
  apply T_fettlelaw3_FramTells_1
  unfold S_fettlelaw3_FramTells_1
  obtain ⟨w3, e3, hw3⟩ := By.cut hb (lo := none) (hi := some (.int .i64 (k : Int))) (a := 0) (r := k) (abound_nat hk) rfl hk (Nat.zero_le _)
  rw [List.drop_zero] at hw3
  rw [e3, OP_some, e_lit0, LT_eq]
  have u1 := Up.push M (some (.inl (([] : List Value), Ty.uint8, true)))
  generalize M.push (some (.inl (([] : List Value), Ty.uint8, true))) = M1 at *
  obtain ⟨v2, M2, e2, hu2, h2, _, _, hc2⟩ := NB.app (Ch.refl [] M1) (N.lit0 M1 M1 (some ⟨M.n, 0, none⟩) fun x hx => by injection hx with hx; subst hx; rfl) (Sl.up hb u1) (by simp; omega)
  rw [e2, OP2_some]
  have hc2' : Up M1 M2 := hc2
  refine ⟨hc2'.tdj _ _, ?_⟩
  rw [List.nil_append] at h2
  have uM2 := u1.trans hu2
  obtain ⟨v3, M3, e4, hu3, h3, _, _, hc3⟩ := NB.app hu2 h2 (Sl.up hraw uM2) (by omega)
  rw [e4, OP2_some]
  refine ⟨tdj_app hc3 (j := 8) (by simp) fun b hb => ?_, ?_⟩
  · obtain ⟨g1, g2, g3⟩ := Nw.kil_in h2 hb
    exact ⟨g3, g1, g2⟩
  obtain ⟨a0, c0, rfl⟩ := hraw.slice
  obtain ⟨a1, c1, rfl⟩ := hb.slice
  obtain ⟨a2, c2, rfl⟩ := hu10.slice
  obtain ⟨a3, c3, rfl⟩ := hw3.slice
  obtain ⟨a4, c4, rfl⟩ := h3.sl.slice
  rw [e_lit5s, LT_eq, e_lenV]
  have uM3 : Up M M3 := u1.trans hu3
  have u4 := Up.push M3 (some (.inl ([Value.slice a0 raw.length c0, .slice a1 bb.length c1, .slice a2 u.length c2, .slice a3 (bb.take k).length c3, .slice a4 (bb ++ raw).length c4], Ty.sl_uint8, true)))
  have hBB : BB (M3.push (some (.inl ([Value.slice a0 raw.length c0, .slice a1 bb.length c1, .slice a2 u.length c2, .slice a3 (bb.take k).length c3, .slice a4 (bb ++ raw).length c4], Ty.sl_uint8, true)))) (.slice (some ⟨M3.n, 0, none⟩) 5 5) [raw, bb, u, bb.take k, bb ++ raw] := by
    refine ⟨_, (Nw.lit (s := 1) (M0 := M3) (n := 5) (Nat.le_refl _) rfl).sl, ?_, ?_, ?_, ?_, ?_, trivial⟩
    · exact Sl.up (Sl.up hraw uM3) u4
    · exact Sl.up (Sl.up hb uM3) u4
    · exact Sl.up (Sl.up hu10 uM3) u4
    · exact Sl.up (Sl.up hw3 uM3) u4
    · exact Sl.up h3.by u4
  refine L3_loop (M0 := M0) (xs := [raw, bb, u, bb.take k, bb ++ raw]) ?_ h0 (by simp) hQ 5 0 [] _ rfl (hu.trans (uM3.trans u4)) (o8.up (uM3.trans u4)) hBB (Dfs.nil _ _)
  intro x hx
  simp only [List.mem_cons, List.not_mem_nil, or_false] at hx
  rcases hx with rfl | rfl | rfl | rfl | rfl <;> simp <;> omega

theorem FramTells_ok {M : Store} {raw rows : Value} {l : List UInt8} {ll : List (List UInt8)} (hraw : B M raw l) (hrows : BB M rows ll) {n : Int} (n1 : -9223372036854775808 ≤ n) (n2 : n ≤ 9223372036854775807) (y : UInt8)
    (l1 : l.length ≤ 2 ^ 21) (l2 : ll.length ≤ 2 ^ 21) (l3 : total ll ≤ 2 ^ 21) : R F.fettlelaw3_FramTells #[raw, rows, .int .i64 n, bv y] M fun v M' => v = .bool true := by
  refine R.cps fun Q hQ => ?_
  apply T_fettlelaw3_FramTells
  unfold S_fettlelaw3_FramTells
  rw [LT_eq]
  have o8 := Ob.new M [.bool false] Ty.bool
  have u1 := Up.push M (some (.inl ([.bool false], Ty.bool, true)))
  generalize M.push (some (.inl ([.bool false], Ty.bool, true))) = M1 at *
  have hend : R F.fettlelaw3_awake #[] M1 fun t31 M2 => OP (st 1 (.pointer (some ⟨M.n, 0, none⟩)) t31 M2) fun M3 => OP (atake [] M3) fun M4 => OP (ld 1 false (.pointer (some ⟨M.n, 0, none⟩)) M4) fun r8 => NTs [r8] ∧ Q r8 M4 := by
    refine (awake3_ok M1).mono fun v M2 ⟨hu2, hv⟩ => ?_
    subst hv
    have o82 := o8.up hu2
    rw [o82.st (o := 0) (by simp) rfl rfl, OP_some]
    have ha : ∀ X : Store, atake [] X = some X := fun _ => rfl
    rw [ha, OP_some, (o82.setSt _).ld (o := 0) rfl, OP_some]
    exact ⟨rfl, hQ _ _ rfl⟩
  rw [hraw.lenV, OP_some, e_gtr, BR_dec]
  split
  · exact hend
  rw [hrows.lenV, OP_some, e_gtr, BR_dec]
  split
  · exact hend
  rename_i hr1 hr2
  refine (Frames_ok (hrows.up By.up' u1) (by omega)).mono fun v2 M2 ⟨hu2, h2⟩ => ?_
  have hft : (frames (ll.take 10)).length ≤ 2 ^ 21 + 100 := by
    rw [frames_length]
    have : total (ll.take 10) ≤ total ll := by
      have : total ll = total (ll.take 10) + total (ll.drop 10) := by
        rw [total, total, total, ← List.sum_append, ← List.map_append, List.take_append_drop]
      omega
    have : (ll.take 10).length ≤ 10 := by simp; omega
    omega
  generalize frames (ll.take 10) = bb at *
  have uM2 := u1.trans hu2
  refine (Put_ok h2.by (Sl.up hraw uM2) (by omega) (by omega)).mono fun v3 M3 ⟨hu3, h3⟩ => ?_
  refine ⟨hu3.tdx _ _ _, ?_⟩
  rw [cvBS_ok h3.by, OP_some]
  refine (RPut_ok (Sl.up h2.by hu3) (Sl.up hraw (uM2.trans hu3)) (by omega) (by omega)).mono fun v4 M4 ⟨hu4, h4⟩ => ?_
  refine ⟨hu4.tdj _ _, ?_⟩
  rw [cvBS_ok h4.by, OP_some, str_neq, BR_dec, if_neg (by simp), e_lit0, LT_eq]
  have uM4 : Up M M4 := (uM2.trans hu3).trans hu4
  have hb4 : B M4 v2 bb := Sl.up (Sl.up h2.by hu3) hu4
  refine copy0 hb4 (by omega) fun v5 M5 hu5 h5 => ?_
  have uM5 := uM4.trans hu5
  have hb5 : B M5 v2 bb := Sl.up hb4 hu5
  have o85 : Ob M5 M.n [.bool false] Ty.bool := o8.up (((hu2.trans hu3).trans hu4).trans hu5)
  have fin : ∀ M', Up M M' → Q (.bool true) M' := fun M' _ => hQ _ _ rfl
  rw [h5.sl.lenV, OP_some, e_gtr, BR_dec]
  split
  · rename_i hpos
    obtain ⟨kk, hkk, ek⟩ := e_and16 n n1 n2
    rw [ek, OP_some, OP_some, e_rem _ _ (by omega), OP_some]
    have hlt : kk % bb.length < bb.length := Nat.mod_lt _ (by omega)
    obtain ⟨p, M6, e6, e7, hu6, h6, b, hb, hc6, cells, hob⟩ := N.put hu5 h5 hlt .i64 y
    rw [e6, OP_some, e7, OP_some]
    have uM6 : Up M M6 := uM4.trans hu6
    have hn4 := hu5.n
    have hb6 : B M6 v2 bb := Sl.up hb4 hu6
    have o86 : Ob M6 M.n [.bool false] Ty.bool := o8.up (((hu2.trans hu3).trans hu4).trans hu6)
    exact L3_mid uM6 (Nat.le_refl _) o86 (Sl.up hraw uM6) hb6 h6.by (by omega) (by omega) (by omega) (by rw [List.length_set]; omega) fin
  · exact L3_mid (k := 0) uM5 (Nat.le_refl _) o85 (Sl.up hraw uM5) hb5 h5.by (Nat.zero_le _) (by omega) (by omega) (by omega) fin

end Go.G
