/- Words that all texts share: calls, bytes, texts, numbers cut. Numbers as bytes, copies of slices: what the calls come to. Numbers as bytes by the document's text; sums of bytes. The abstract machine over this program: its code is good. Sums of bytes, told at once: what closed calls are run with. -/
import Derived.Test.YtpacolplhcfamaaPGN
import Derived.Test.YtpacolplhcfamaaPKE
import Derived.Test.YtpacolplhcfamaaPGA
import Derived.Test.YtpacolplhcfamaaRows
import Derived.Test.YtpacolplhcfamaaPGS0
import Derived.ProofKit
import Derived.OpenShut
import Derived.JoinedCond
import Derived.Deep.Matrix
namespace Go.G
open Go.Ab Go.Proofs Go.RowKit
set_option linter.unusedVariables false
set_option linter.unusedSimpArgs false

abbrev B (M : Store) (v : Value) (l : List UInt8) : Prop := By Ty.uint8 M v l
abbrev N (M0 M : Store) (v : Value) (l : List UInt8) : Prop := NB Ty.uint8 M0 M v l
theorem R.mono {f : FuncId} {args : Array Value} {M : Store} {Q Q' : Value → Store → Prop} (h : R f args M Q) (k : ∀ v M', Q v M' → Q' v M') : R f args M Q' := Runs.mono h k
theorem NTs_sl {a : Option Addr} {n c : Nat} : NTs [.slice a n c] := rfl
theorem nts_of {s e M v n cs} (h : Sl s e M v n cs) : NTs [v] := by obtain ⟨a, c, rfl⟩ := h.slice; rfl
theorem wrap_u8 (n : Nat) : IntKind.wrap .u8 (n : Int) = ((UInt8.ofNat n).toNat : Int) := by
  simp [IntKind.wrap, IntKind.bits, IntKind.signed]
theorem R.cps {f : FuncId} {args : Array Value} {M : Store} {S : Value → Store → Prop} (h : ∀ Q : Value → Store → Prop, (∀ v M', S v M' → Q v M') → R f args M Q) : R f args M S := h S fun _ _ h => h
theorem bytes_cells : ∀ l : List UInt8, bytesOfCells (l.map bv) = some l
  | [] => rfl
  | x :: l => by
    show bytesOfCells (.int .u8 (x.toNat : Int) :: l.map bv) = _
    rw [bytesOfCells, bytes_cells l]
    simp
theorem cvBS_ok {M : Store} {v : Value} {l : List UInt8} (h : B M v l) : cvBS v M = some (.string ⟨l.toArray⟩) := by
  obtain ⟨h1, a, c, rfl, h3, h4⟩ := h
  by_cases hn : l.length = 0
  · have : l = [] := List.length_eq_zero_iff.1 hn
    subst this
    cases a with
    | none => rfl
    | some x => obtain ⟨b, o, sp⟩ := x; have := h3 _ rfl; simp only at this; subst this; rfl
  · obtain ⟨b, o, cells, e', own, rfl, h6, h7, h8, h9⟩ := h4 (by omega)
    simp only [cvBS, if_neg hn]
    rw [row_of h6 (by simpa using h8)]
    rw [Nat.mul_one] at h9
    rw [h9, Option.bind_some, bytes_cells]; rfl
theorem str_neq (l k : List UInt8) (K : Value → Prop) : OP (binS .neq (.string ⟨l.toArray⟩) (.string ⟨k.toArray⟩)) K = K (.bool (decide (l ≠ k))) := by
  have h : binS .neq (.string ⟨l.toArray⟩) (.string ⟨k.toArray⟩) = some (.bool (!(l == k))) := rfl
  rw [h, OP_some]
  congr 2
  by_cases e : l = k <;> simp [e]
theorem str_eql (l k : List UInt8) (K : Value → Prop) : OP (binS .eql (.string ⟨l.toArray⟩) (.string ⟨k.toArray⟩)) K = K (.bool (decide (l = k))) := by
  have h : binS .eql (.string ⟨l.toArray⟩) (.string ⟨k.toArray⟩) = some (.bool (l == k)) := rfl
  rw [h, OP_some]
  congr 2
  by_cases e : l = k <;> simp [e]
theorem e_lenS (l : List UInt8) (K : Value → Prop) : OP (lenS (.string ⟨l.toArray⟩)) K = K (.int .i64 (l.length : Int)) := rfl
theorem e_ixS {l : List UInt8} {i : Nat} (hi : i < l.length) : ixS (.string ⟨l.toArray⟩) (.int .i64 (i : Int)) = some (bv l[i]) := by
  simp only [ixS]
  rw [if_pos (by omega)]
  have h1 : (i : Int).toNat < (⟨l.toArray⟩ : ByteArray).size := hi
  have : (⟨l.toArray⟩ : ByteArray)[(i : Int).toNat]? = some l[i] := by
    rw [getElem?_pos (⟨l.toArray⟩ : ByteArray) (i : Int).toNat h1]; rfl
  rw [this]; rfl
theorem cvSB_ok {M : Store} {l : List UInt8} (hl : l.length ≤ 2 ^ 30) {K : Value → Store → Prop} (hK : ∀ v M', Up M M' → N M M' v l → K v M') : OP2 (cvSB Ty.uint8 (.string ⟨l.toArray⟩) M) K := by
  have e : cvSB Ty.uint8 (.string ⟨l.toArray⟩) M = some (.slice (some ⟨M.n, 0, none⟩) l.length (l.length + 1), M.push (some (.inl (l.map bv, Ty.uint8, true)))) := by
    have h : cvSB Ty.uint8 (.string ⟨l.toArray⟩) M = if 2 ^ 40 < l.length then none else some (.slice (some ⟨M.n, 0, none⟩) l.length (l.length + 1), M.push (some (.inl (l.map bv, Ty.uint8, true)))) := rfl
    rw [h, if_neg (by omega)]
  rw [e, OP2_some]
  exact hK _ _ (Up.push M _) (Nw.lit1 (n := l.length) (Nat.le_refl _) (by simp))
theorem e_rem (a b : Nat) (hb : 0 < b) : binI .rem (.int .i64 (a : Int)) (.int .i64 (b : Int)) = some (.int .i64 ((a % b : Nat) : Int)) := by
  have h : binI .rem (.int .i64 (a : Int)) (.int .i64 (b : Int)) = if (b : Int) = 0 then none else some (.int .i64 ((a : Int).tmod b)) := rfl
  rw [h, if_neg (by omega), Int.tmod_eq_emod_of_nonneg (by omega)]; rfl
def andN (n : Int) (m : Nat) : Nat := (BitVec.ofInt 64 n &&& BitVec.ofInt 64 (m : Int)).toNat
theorem andN_le (n : Int) (m : Nat) (hm : m < 2 ^ 62) : andN n m ≤ m := by
  unfold andN
  rw [BitVec.toNat_and]
  have : (BitVec.ofInt 64 (m : Int)).toNat = m := by rw [BitVec.toNat_ofInt]; omega
  rw [this]
  exact Nat.and_le_right
theorem e_andN (n : Int) (m : Nat) (hm : m < 2 ^ 62) : binI .and (.int .i64 n) (.int .i64 (m : Int)) = some (.int .i64 (andN n m : Int)) := by
  have h : binI .and (.int .i64 n) (.int .i64 (m : Int)) = some (.int .i64 (IntKind.wrap .i64 (BitVec.ofInt 64 n &&& BitVec.ofInt 64 m).toNat)) := rfl
  have hk := andN_le n m hm
  rw [h]
  unfold andN at *
  rw [w64 (by omega) (by omega)]
def u8N (x : Int) : UInt8 := UInt8.ofNat (x % 256).toNat
theorem cv_u8N (x : Int) (K : Value → Prop) : OP (cvI .u8 (.int .i64 x)) K = K (bv (u8N x)) := by
  rw [e_cvI]
  have : IntKind.wrap .u8 x = ((u8N x).toNat : Int) := by
    have h : IntKind.wrap .u8 x = x % 256 := by simp [IntKind.wrap, IntKind.bits, IntKind.signed]
    rw [h, u8N, UInt8.toNat_ofNat']
    omega
  rw [this]; rfl
def shrN (n : Int) (k : Nat) : Int := n.fdiv (2 ^ k)
theorem e_shrN (n : Int) (k : Nat) (hk : k ≤ 64) (K : Value → Prop) : OP (binI .shr (.int .i64 n) (.int .u64 (k : Int))) K = K (.int .i64 (shrN n k)) := by
  rw [e_shr (by omega)]
  have : min (k : Int).toNat (IntKind.bits .i64) = k := by simp [IntKind.bits]; omega
  rw [this]; rfl

end Go.G

namespace Go.G
open Go.Ab Go.Proofs Go.RowKit
set_option linter.unusedVariables false
set_option linter.unusedSimpArgs false

theorem Clone_ok {M : Store} {v : Value} {l : List UInt8} (h : B M v l) (hl : l.length ≤ 2 ^ 24) : R F.slices_Clone_sl_byte_byte #[v] M fun v' M' => Up M M' ∧ N M M' v' l := by
  apply T_slices_Clone_sl_byte_byte
  obtain ⟨a, c, rfl⟩ := h.slice
  unfold S_slices_Clone_sl_byte_byte
  rw [abin_nil U.sl_uint8]
  cases a with
  | none =>
    obtain ⟨h1, a, c', h2, h3, h4⟩ := h
    injection h2 with h2 h5 h6
    subst h2; subst h6
    have : l.length = 0 := by
      rcases Nat.eq_zero_or_pos l.length with h | h
      · exact h
      · obtain ⟨b, o, cells, e', own, h7, _⟩ := h4 h; cases h7
    have hl : l = [] := List.length_eq_zero_iff.1 this
    subst hl
    simp only [Option.isNone_none, ev]
    exact ⟨rfl, Ch.refl _ _, Nw.nil _ _ _ _⟩
  | some a =>
    simp only [Option.isNone_some, ev]
    have hn : N M (M.push (some (.inl (([] : List Value), Ty.uint8, true)))) (.slice (some ⟨M.n, 0, none⟩) 0 0) [] := Nw.lit (n := 0) (cs := []) (Nat.le_refl _) (by simp)
    obtain ⟨v', M', e, hu, hN, _⟩ := NB.app (Up.push M _) hn (Sl.up h (Up.push M _)) (by simp; omega)
    rw [e, OP2_some]
    refine ⟨?_, hu, by simpa using hN⟩
    obtain ⟨a, c, rfl⟩ := hN.sl.slice
    rfl

theorem slM_full {s e : Nat} {M0 M : Store} {v : Value} {n : Nat} {cs : List Value} (h : Nw s e M0 M v n cs) : ∃ v', slM s e v none (.int .i64 n) (.int .i64 n) M = some v' ∧ Nw s e M0 M v' n cs := by
  obtain ⟨h1, ⟨rfl, a, rfl, h2⟩ | ⟨b, cells, c, rfl, h2, h3, h4, h5, h6⟩⟩ := h
  · refine ⟨.slice a 0 0, ?_, h1, .inl ⟨rfl, a, rfl, h2⟩⟩
    cases a with
    | none => simp [slM, abound]
    | some x => obtain ⟨b, o, sp⟩ := x; simp [slM, abound, Addr.add]
  · refine ⟨.slice (some ⟨b, 0, none⟩) n n, ?_, h1, .inr ⟨b, cells, n, rfl, h2, h3, h4, h5, .inl rfl⟩⟩
    simp [slM, abound, elemOk, h3, Addr.add]

theorem Clip_ok {M0 M : Store} {v : Value} {l : List UInt8} (h : N M0 M v l) : R F.slices_Clip_sl_byte_byte #[v] M fun v' M' => M' = M ∧ N M0 M v' l := by
  apply T_slices_Clip_sl_byte_byte
  obtain ⟨v', e, h'⟩ := slM_full h
  unfold S_slices_Clip_sl_byte_byte
  rw [h.sl.lenV]
  simp only [ev, e]
  exact ⟨nts_of h'.sl, trivial, h'⟩

/-- The lowest k bytes of a number, the highest first. -/
def be : Nat → Nat → List UInt8
  | 0, _ => []
  | k + 1, n => UInt8.ofNat (n / 256 ^ k) :: be k n
theorem be_length (k n : Nat) : (be k n).length = k := by induction k <;> simp [be, *]
/-- A number held to its bounds. -/
def held (n : Int) : Nat := (min (max n 0) 1099511627776).toNat
theorem app1 {M0 M : Store} (hu : Up M0 M) {v : Value} {l : List UInt8} (h : N M0 M v l) (x : UInt8) (hz : l.length + 1 ≤ 2 ^ 28) {K : Value → Store → Prop} (hK : ∀ v' M', Up M0 M' → N M0 M' v' (l ++ [x]) → K v' M') :
    OP2 (appV 1 Ty.uint8 v (.slice (some ⟨M.n, 0, none⟩) 1 1) (M.push (some (.inl ([bv x], Ty.uint8, true))))) K := by
  have hx : N M0 (M.push (some (.inl ([bv x], Ty.uint8, true)))) (.slice (some ⟨M.n, 0, none⟩) 1 1) [x] := Nw.lit (n := 1) hu.le (by simp)
  obtain ⟨v', M', e, hu', hN, _⟩ := NB.app (hu.push' _) (Nw.up h (Up.push M _)) hx.by (by simpa using hz)
  rw [e, OP2_some]; exact hK v' M' hu' hN

theorem shr_byte (n j : Nat) : IntKind.wrap .u8 ((n : Int).fdiv (2 ^ (min ((8 : Int) * (j : Int)).toNat (IntKind.bits .i64)))) = ((UInt8.ofNat (n / 2 ^ (min (8 * j) 64))).toNat : Int) := by
  have : ((8 : Int) * (j : Int)).toNat = 8 * j := by omega
  rw [this, ← wrap_u8]
  congr 1
  rw [Int.fdiv_eq_ediv_of_nonneg _ (Int.pow_nonneg (by decide))]
  simp only [IntKind.bits]
  norm_cast

theorem Num_loop {M0 : Store} {n : Nat} (hn : n ≤ 1099511627776) {Q : Value → Store → Prop} : ∀ (d : Nat) (M : Store) (v : Value) (l : List UInt8), d ≤ 6 → l.length + d ≤ 2 ^ 26 → Up M0 M → N M0 M v l →
    (∀ v' M', Up M0 M' → N M0 M' v' (l ++ be d n) → Q v' M') → P_code_Num_1 (.int .i64 n) v (.int .i64 ((d : Int) - 1)) M Q := by
  intro d
  induction d with
  | zero =>
    intro M v l _ _ hu h hQ
    apply T_code_Num_1
    unfold S_code_Num_1
    simp (disch := omega) only [ev, if_neg, if_pos]
    apply T_code_Num_2
    exact ⟨nts_of h.sl, hQ _ _ hu (by simpa [be] using h)⟩
  | succ d ih =>
    intro M v l hd hl hu h hQ
    apply T_code_Num_1
    unfold S_code_Num_1
    have hd1 : ((d + 1 : Nat) : Int) - 1 = (d : Int) := by omega
    simp (disch := omega) only [ev, if_pos, w64, hd1, e_shr, shr_byte]
    refine app1 hu h _ (by omega) fun v' M' hu' h' => ?_
    refine ih M' v' _ (by omega) (by simp; omega) hu' h' fun v2 M2 hu2 h2 => hQ v2 M2 hu2 ?_
    rw [List.append_assoc] at h2
    have e : n / 2 ^ (min (8 * d) 64) = n / 256 ^ d := by
      rw [Nat.min_eq_left (by omega), Nat.pow_mul]
    rw [e] at h2
    exact h2

theorem clamp (n : Int) : (if (if (0 : Int) > n then (0 : Int) else n) > (1099511627776 : Int) then (1099511627776 : Int) else (if (0 : Int) > n then (0 : Int) else n)) = (held n : Int) := by
  unfold held; split <;> split <;> omega
theorem held_le (n : Int) : held n ≤ 1099511627776 := by unfold held; omega
theorem held_of {n : Nat} (h : n ≤ 1099511627776) : held (n : Int) = n := by unfold held; omega

theorem Num_ok {M : Store} {v : Value} {l : List UInt8} (h : B M v l) (hl : l.length ≤ 2 ^ 24) (n : Int) : R F.code_Num #[v, .int .i64 n] M fun v' M' => Up M M' ∧ N M M' v' (l ++ be 6 (held n)) := by
  apply T_code_Num
  unfold S_code_Num
  simp only [ev]
  refine (Clone_ok h hl).mono fun v1 M1 ⟨hu1, h1⟩ => ?_
  refine (Clip_ok h1).mono fun v2 M2 ⟨e2, h2⟩ => ?_
  subst e2
  have hc : (if (1099511627776 : Int) < (if (0 : Int) > n then (0 : Int) else n) then (1099511627776 : Int) else (if (0 : Int) > n then (0 : Int) else n)) = (held n : Int) := clamp n
  rw [hc]
  exact Num_loop (held_le n) 6 _ v2 l (by omega) (by omega) hu1 h2 fun v' M' hu' h' => ⟨hu', h'⟩

theorem Bytes_ok {M : Store} {v x : Value} {l k : List UInt8} (h : B M v l) (hx : B M x k) (hl : l.length ≤ 2 ^ 24) (hk : k.length ≤ 2 ^ 24) :
    R F.code_Bytes #[v, x] M fun v' M' => Up M M' ∧ N M M' v' (l ++ be 6 k.length ++ k) := by
  apply T_code_Bytes
  unfold S_code_Bytes
  rw [hx.lenV]
  simp only [ev]
  refine (Num_ok h hl _).mono fun v1 M1 ⟨hu1, h1⟩ => ?_
  rw [held_of (by omega)] at h1
  obtain ⟨v', M', e, hu', h', _⟩ := NB.app hu1 h1 (Sl.up hx hu1) (by simp [be_length]; omega)
  rw [e, OP2_some]
  exact ⟨nts_of h'.sl, hu', h'⟩

end Go.G

namespace Go.G
open Go.Ab Go.Proofs Go.RowKit
set_option linter.unusedVariables false
set_option linter.unusedSimpArgs false

theorem copy0 {M : Store} {x : Value} {l : List UInt8} (hx : B M x l) (hl : l.length ≤ 2 ^ 24) {K : Value → Store → Prop} (hK : ∀ v' M', Up M M' → N M M' v' l → K v' M') :
    OP2 (appV 1 Ty.uint8 (.slice (some ⟨M.n, 0, none⟩) 0 0) x (M.push (some (.inl ([], Ty.uint8, true))))) K := by
  have hn : N M (M.push (some (.inl (([] : List Value), Ty.uint8, true)))) (.slice (some ⟨M.n, 0, none⟩) 0 0) [] := Nw.lit (n := 0) (cs := []) (Nat.le_refl _) (by simp)
  obtain ⟨v', M', e, hu, hN, _⟩ := NB.app (Up.push M _) hn (Sl.up hx (Up.push M _)) (by simp; omega)
  rw [e, OP2_some]
  exact hK v' M' hu (by simpa using hN)

theorem wrap_u64 (n : Nat) (h : n < 2 ^ 64) : IntKind.wrap .u64 (n : Int) = (n : Int) := by
  simp [IntKind.wrap, IntKind.bits, IntKind.signed]; omega

theorem RNum_loop {M0 : Store} {n : Nat} (hn : n ≤ 1099511627776) {Q : Value → Store → Prop} : ∀ (d : Nat) (M : Store) (v : Value) (l : List UInt8), d ≤ 6 → l.length + d ≤ 2 ^ 26 → Up M0 M → N M0 M v l →
    (∀ v' M', Up M0 M' → N M0 M' v' (l ++ be d n) → Q v' M') → P_fettleref1_Num_1 (.int .i64 n) v (.int .i64 ((d : Int) - 1)) M Q := by
  intro d
  induction d with
  | zero =>
    intro M v l _ _ hu h hQ
    apply T_fettleref1_Num_1
    unfold S_fettleref1_Num_1
    simp (disch := omega) only [ev, if_neg, if_pos]
    apply T_fettleref1_Num_3
    exact ⟨nts_of h.sl, hQ _ _ hu (by simpa [be] using h)⟩
  | succ d ih =>
    intro M v l hd hl hu h hQ
    apply T_fettleref1_Num_1
    unfold S_fettleref1_Num_1
    have hd1 : ((d + 1 : Nat) : Int) - 1 = (d : Int) := by omega
    simp (disch := omega) only [ev, if_pos, w64, hd1]
    apply T_fettleref1_Num_2
    unfold S_fettleref1_Num_2
    have hw : IntKind.wrap .u64 (8 * (d : Int)) = 8 * (d : Int) := by
      have := wrap_u64 (8 * d) (by omega)
      simpa using this
    simp (disch := omega) only [ev, if_pos, w64, hw, e_shr, shr_byte]
    refine app1 hu h _ (by omega) fun v' M' hu' h' => ?_
    refine ih M' v' _ (by omega) (by simp; omega) hu' h' fun v2 M2 hu2 h2 => hQ v2 M2 hu2 ?_
    rw [List.append_assoc] at h2
    have e : n / 2 ^ (min (8 * d) 64) = n / 256 ^ d := by
      rw [Nat.min_eq_left (by omega), Nat.pow_mul]
    rw [e] at h2
    exact h2

theorem RNum_ok {M : Store} {v : Value} {l : List UInt8} (h : B M v l) (hl : l.length ≤ 2 ^ 24) (n : Int) : R F.fettleref1_Num #[v, .int .i64 n] M fun v' M' => Up M M' ∧ N M M' v' (l ++ be 6 (held n)) := by
  apply T_fettleref1_Num
  unfold S_fettleref1_Num
  simp only [ev]
  refine copy0 h hl fun v2 M2 hu2 h2 => ?_
  have hc : (if (1099511627776 : Int) < (if (0 : Int) > n then (0 : Int) else n) then (1099511627776 : Int) else (if (0 : Int) > n then (0 : Int) else n)) = (held n : Int) := clamp n
  rw [hc]
  exact RNum_loop (held_le n) 6 _ v2 l (by omega) (by omega) hu2 h2 fun v' M' hu' h' => ⟨hu', h'⟩

theorem RBytes_ok {M : Store} {v x : Value} {l k : List UInt8} (h : B M v l) (hx : B M x k) (hl : l.length ≤ 2 ^ 24) (hk : k.length ≤ 2 ^ 24) :
    R F.fettleref1_Bytes #[v, x] M fun v' M' => Up M M' ∧ N M M' v' (l ++ be 6 k.length ++ k) := by
  apply T_fettleref1_Bytes
  unfold S_fettleref1_Bytes
  rw [hx.lenV]
  simp only [ev]
  refine (RNum_ok h hl _).mono fun v1 M1 ⟨hu1, h1⟩ => ?_
  rw [held_of (by omega)] at h1
  obtain ⟨v', M', e, hu', h', _⟩ := NB.app hu1 h1 (Sl.up hx hu1) (by simp [be_length]; omega)
  rw [e, OP2_some]
  exact ⟨nts_of h'.sl, hu', h'⟩

/-! ## sums -/
def u32v (c : BitVec 32) : Value := .int .u32 (c.toNat : Int)
def crcBit (c : BitVec 32) : BitVec 32 := if c &&& 1#32 = 1#32 then (c >>> 1) ^^^ 3988292384#32 else c >>> 1
def crcBits : Nat → BitVec 32 → BitVec 32
  | 0, c => c
  | k + 1, c => crcBits k (crcBit c)
def crcByte (c : BitVec 32) (x : UInt8) : BitVec 32 := crcBits 8 (c ^^^ x.toBitVec.setWidth 32)
def crcL (c : BitVec 32) (l : List UInt8) : BitVec 32 := l.foldl crcByte c
def crc (l : List UInt8) : BitVec 32 := crcL 4294967295#32 l ^^^ 4294967295#32

theorem wrap_u32 (n : Nat) : IntKind.wrap .u32 (n : Int) = ((n % 2 ^ 32 : Nat) : Int) := by
  simp [IntKind.wrap, IntKind.bits, IntKind.signed]
theorem bvI (c : BitVec 32) : BitVec.ofInt 32 (c.toNat : Int) = c := by
  apply BitVec.eq_of_toNat_eq
  rw [BitVec.toNat_ofInt]
  have := c.isLt
  omega
theorem e_xor (a b : BitVec 32) (K : Value → Prop) : OP (binI .xor (u32v a) (u32v b)) K = K (u32v (a ^^^ b)) := by
  have h : binI .xor (u32v a) (u32v b) = some (.int .u32 (IntKind.wrap .u32 (BitVec.ofInt 32 (a.toNat : Int) ^^^ BitVec.ofInt 32 (b.toNat : Int)).toNat)) := rfl
  rw [h, bvI, bvI, wrap_u32, Nat.mod_eq_of_lt (BitVec.isLt _)]; rfl
theorem e_and (a b : BitVec 32) (K : Value → Prop) : OP (binI .and (u32v a) (u32v b)) K = K (u32v (a &&& b)) := by
  have h : binI .and (u32v a) (u32v b) = some (.int .u32 (IntKind.wrap .u32 (BitVec.ofInt 32 (a.toNat : Int) &&& BitVec.ofInt 32 (b.toNat : Int)).toNat)) := rfl
  rw [h, bvI, bvI, wrap_u32, Nat.mod_eq_of_lt (BitVec.isLt _)]; rfl
theorem u32_shr (a : BitVec 32) (k : Nat) (hk : k ≤ 32) (K : Value → Prop) : OP (binI .shr (u32v a) (.int .u64 (k : Int))) K = K (u32v (a >>> k)) := by
  unfold u32v
  rw [e_shr (by omega)]
  congr 2
  rw [Int.fdiv_eq_ediv_of_nonneg _ (Int.pow_nonneg (by decide))]
  have : min (k : Int).toNat (IntKind.bits .u32) = k := by simp [IntKind.bits]; omega
  rw [this, BitVec.toNat_ushiftRight, Nat.shiftRight_eq_div_pow]
  norm_cast
theorem u32_eql (a b : BitVec 32) (K : Value → Prop) : OP (binI .eql (u32v a) (u32v b)) K = K (.bool (decide (a = b))) := by
  unfold u32v
  rw [e_eql]
  congr 2
  rw [decide_eq_decide]
  constructor
  · intro h; apply BitVec.eq_of_toNat_eq; omega
  · rintro rfl; rfl
theorem cv_u32 (x : UInt8) (K : Value → Prop) : OP (cvI .u32 (bv x)) K = K (u32v (x.toBitVec.setWidth 32)) := by
  unfold bv u32v
  rw [e_cvI, wrap_u32]
  congr 3
  rw [BitVec.toNat_setWidth]; rfl
theorem cv_u8 (c : BitVec 32) (K : Value → Prop) : OP (cvI .u8 (u32v c)) K = K (bv (UInt8.ofNat c.toNat)) := by
  unfold bv u32v
  rw [e_cvI, wrap_u8]

theorem Sum_bits {x7 x8 x9 : Value} {M : Store} {Q : Value → Store → Prop} : ∀ (d : Nat) (c : BitVec 32), d ≤ 8 → P_crcs_Sum_4 (u32v (crcBits d c)) x7 x8 x9 M Q → P_crcs_Sum_2 (u32v c) x7 x8 x9 (.int .i64 (8 - d)) M Q := by
  intro d
  induction d with
  | zero =>
    intro c _ h
    apply T_crcs_Sum_2
    unfold S_crcs_Sum_2
    simp (disch := omega) only [ev, if_neg]
    exact h
  | succ d ih =>
    intro c hd h
    apply T_crcs_Sum_2
    unfold S_crcs_Sum_2
    have e1 : (.int .u32 1 : Value) = u32v 1#32 := rfl
    have e2 : (.int .u32 3988292384 : Value) = u32v 3988292384#32 := rfl
    have e3 := u32_shr c 1 (by omega)
    have e4 : (8 - ((d + 1 : Nat) : Int)) + 1 = 8 - (d : Int) := by omega
    have e5 : ((1 : Nat) : Int) = 1 := rfl
    rw [e5] at e3
    rw [e1, e2]
    simp (disch := omega) only [ev, if_pos, e_and, e3, u32_eql, e_xor, w64, e4]
    simp only [crcBits, crcBit] at h
    split
    · rename_i h1; rw [if_pos h1] at h; exact ih _ (by omega) h
    · rename_i h1; rw [if_neg h1] at h; exact ih _ (by omega) h

theorem Sum_loop {M : Store} {x : Value} {l : List UInt8} (hx : B M x l) (hl : l.length ≤ 2 ^ 26) {Q : Value → Store → Prop} : ∀ (d i : Nat) (c : BitVec 32), d + i = l.length → Q (u32v (crcL c (l.drop i) ^^^ 4294967295#32)) M →
    P_crcs_Sum_1 (u32v c) x (.int .i64 (l.length : Int)) (.int .i64 (i : Int)) M Q := by
  intro d
  induction d with
  | zero =>
    intro i c hi h
    apply T_crcs_Sum_1
    unfold S_crcs_Sum_1
    simp (disch := omega) only [ev, if_neg]
    apply T_crcs_Sum_3
    unfold S_crcs_Sum_3
    have e1 : (.int .u32 4294967295 : Value) = u32v 4294967295#32 := rfl
    rw [List.drop_of_length_le (by omega)] at h
    rw [e1, e_xor]
    exact ⟨rfl, h⟩
  | succ d ih =>
    intro i c hi h
    apply T_crcs_Sum_1
    unfold S_crcs_Sum_1
    obtain ⟨p, h1, h2⟩ := By.at hx (i := i) (by omega) .i64
    simp (disch := omega) only [ev, if_pos, h1, h2, cv_u32, e_xor]
    refine Sum_bits 8 _ (by omega) ?_
    apply T_crcs_Sum_4
    unfold S_crcs_Sum_4
    simp (disch := omega) only [ev, w64]
    refine ih (i + 1) _ (by omega) ?_
    rw [List.drop_eq_getElem_cons (by omega)] at h
    exact h

theorem Sum_ok {M : Store} {x : Value} {l : List UInt8} (hx : B M x l) (hl : l.length ≤ 2 ^ 26) : R F.crcs_Sum #[x] M fun v M' => M' = M ∧ v = u32v (crc l) := by
  apply T_crcs_Sum
  unfold S_crcs_Sum
  rw [hx.lenV]
  simp only [ev]
  exact Sum_loop hx hl l.length 0 4294967295#32 rfl ⟨rfl, rfl⟩

theorem RSum_bits {x0 x4 : Value} {M : Store} {Q : Value → Store → Prop} : ∀ (d : Nat) (c : BitVec 32), d ≤ 8 → P_fettleref1_Sum_4 x0 (u32v (crcBits d c)) x4 M Q → P_fettleref1_Sum_2 x0 (u32v c) x4 (.int .i64 (8 - d)) M Q := by
  intro d
  induction d with
  | zero =>
    intro c _ h
    apply T_fettleref1_Sum_2
    unfold S_fettleref1_Sum_2
    simp (disch := omega) only [ev, if_neg]
    exact h
  | succ d ih =>
    intro c hd h
    apply T_fettleref1_Sum_2
    unfold S_fettleref1_Sum_2
    have e1 : (.int .u32 1 : Value) = u32v 1#32 := rfl
    have e2 : (.int .u32 3988292384 : Value) = u32v 3988292384#32 := rfl
    have e3 := u32_shr c 1 (by omega)
    have e4 : (8 - ((d + 1 : Nat) : Int)) + 1 = 8 - (d : Int) := by omega
    have e5 : ((1 : Nat) : Int) = 1 := rfl
    rw [e5] at e3
    rw [e1, e2]
    simp (disch := omega) only [ev, if_pos, e_and, e3, u32_eql, e_xor, w64, e4]
    simp only [crcBits, crcBit] at h
    split
    · rename_i h1; rw [if_pos h1] at h; exact ih _ (by omega) h
    · rename_i h1; rw [if_neg h1] at h; exact ih _ (by omega) h

theorem RSum_loop {M : Store} {x : Value} {l : List UInt8} (hx : B M x l) (hl : l.length ≤ 2 ^ 26) {Q : Value → Store → Prop} : ∀ (d i : Nat) (c : BitVec 32), d + i = l.length → Q (u32v (crcL c (l.drop i) ^^^ 4294967295#32)) M →
    P_fettleref1_Sum_1 x (u32v c) (.int .i64 (i : Int)) M Q := by
  intro d
  induction d with
  | zero =>
    intro i c hi h
    apply T_fettleref1_Sum_1
    unfold S_fettleref1_Sum_1
    rw [hx.lenV]
    simp (disch := omega) only [ev, if_neg]
    apply T_fettleref1_Sum_3
    unfold S_fettleref1_Sum_3
    have e1 : (.int .u32 4294967295 : Value) = u32v 4294967295#32 := rfl
    rw [List.drop_of_length_le (by omega)] at h
    rw [e1, e_xor]
    exact ⟨rfl, h⟩
  | succ d ih =>
    intro i c hi h
    apply T_fettleref1_Sum_1
    unfold S_fettleref1_Sum_1
    rw [hx.lenV]
    obtain ⟨p, h1, h2⟩ := By.at hx (i := i) (by omega) .i64
    simp (disch := omega) only [ev, if_pos, h1, h2, cv_u32, e_xor]
    refine RSum_bits 8 _ (by omega) ?_
    apply T_fettleref1_Sum_4
    unfold S_fettleref1_Sum_4
    simp (disch := omega) only [ev, w64]
    refine ih (i + 1) _ (by omega) ?_
    rw [List.drop_eq_getElem_cons (by omega)] at h
    exact h

theorem RSum_ok {M : Store} {x : Value} {l : List UInt8} (hx : B M x l) (hl : l.length ≤ 2 ^ 26) : R F.fettleref1_Sum #[x] M fun v M' => M' = M ∧ v = u32v (crc l) := by
  apply T_fettleref1_Sum
  unfold S_fettleref1_Sum
  exact RSum_loop hx hl l.length 0 4294967295#32 rfl ⟨rfl, rfl⟩

/-- Four bytes, the highest first. -/
def sum4 (c : BitVec 32) : List UInt8 := [UInt8.ofNat (c >>> 24).toNat, UInt8.ofNat (c >>> 16).toNat, UInt8.ofNat (c >>> 8).toNat, UInt8.ofNat c.toNat]

theorem e_lit4b (z : Value) (a b c d : UInt8) (K : List Value → Prop) : OP (bldL z 1 4 [(0, bv a), (1, bv b), (2, bv c), (3, bv d)]) K = K [bv a, bv b, bv c, bv d] := e_lit4 z _ _ _ _ _ _ _ _ K
theorem sum_ok {M : Store} {x : Value} {l : List UInt8} (hx : B M x l) (hl : l.length ≤ 2 ^ 26) : R F.fram_sum #[x] M fun v M' => Up M M' ∧ N M M' v (sum4 (crc l)) := by
  apply T_fram_sum
  unfold S_fram_sum
  refine (Sum_ok hx hl).mono fun v M' ⟨e1, e2⟩ => ?_
  subst e1; subst e2
  have h24 := u32_shr (crc l) 24 (by omega)
  have h16 := u32_shr (crc l) 16 (by omega)
  have h8 := u32_shr (crc l) 8 (by omega)
  simp only [Int.cast_ofNat_Int] at h24 h16 h8
  simp only [h24, h16, h8, cv_u8, e_lit4b, ev]
  refine ⟨rfl, Up.push _ _, ?_⟩
  exact Nw.lit (n := 4) (Nat.le_refl _) rfl

end Go.G

namespace Go.G
open Go.Ab Go.Proofs Go.RowKit Go.ChangeShapes Go.WideShapes Go.ChangeAt
set_option linter.unusedVariables false
set_option maxRecDepth 100000

theorem own_knob : ownKnob Try.prog.godebug = none := by kernel_rfl
theorem laid_out : laidOutB Try.prog = true := by kernel_rfl
theorem all_ok : (Try.prog.funcs.toList.all fun fn => match fn.body with
  | some c => codeOk c
  | none => true) = true := by kernel_rfl
theorem code_ok (E : Ext) : ∀ f fn c, Try.prog.funcs[f]? = some fn → E f = none → fn.body = some c → codeOk c = true := fun f fn c hf _ hb => by
  have hm : fn ∈ Try.prog.funcs.toList := by
    rw [← Array.getElem?_toList] at hf
    exact List.mem_of_getElem? hf
  have := List.all_eq_true.1 all_ok fn hm
  rw [hb] at this; exact this
/-- Whatever answers are given at once, if they are right. -/
theorem call_okE (E : Ext) (hE : ∀ f g, E f = some g → CallOk1 Try.prog f g ∨ ExtOk1 Try.prog f g) (k : Nat) : CallOk Try.prog (acall Try.prog E k) :=
  acall_ok (by kernel_rfl) hE (code_ok E) k
theorem call_fnE (E : Ext) (hE : ∀ f g, E f = some g → CallOk1 Try.prog f g ∨ ExtOk1 Try.prog f g) (k : Nat) {f : FuncId} (hf : E f = none) : CallOk1 Try.prog f (acall Try.prog E k true f) := by
  cases k with
  | zero => intro args M v M' h; simp [acall] at h
  | succ k => exact acall_fn (by kernel_rfl) (code_ok E) (call_okE E hE k) hf

end Go.G

namespace Go.G0
open Go.Ab Go.Proofs Go.RowKit Go.G
set_option linter.unusedVariables false
set_option linter.unusedSimpArgs false

theorem Sum_bits {x7 x8 x9 : Value} {M : Store} {Q : Value → Store → Prop} : ∀ (d : Nat) (c : BitVec 32), d ≤ 8 → P_crcs_Sum_4 (u32v (crcBits d c)) x7 x8 x9 M Q → P_crcs_Sum_2 (u32v c) x7 x8 x9 (.int .i64 (8 - d)) M Q := by
  intro d
  induction d with
  | zero =>
    intro c _ h
    apply T_crcs_Sum_2
    unfold S_crcs_Sum_2
    simp (disch := omega) only [ev, if_neg]
    exact h
  | succ d ih =>
    intro c hd h
    apply T_crcs_Sum_2
    unfold S_crcs_Sum_2
    have e1 : (.int .u32 1 : Value) = u32v 1#32 := rfl
    have e2 : (.int .u32 3988292384 : Value) = u32v 3988292384#32 := rfl
    have e3 := u32_shr c 1 (by omega)
    have e4 : (8 - ((d + 1 : Nat) : Int)) + 1 = 8 - (d : Int) := by omega
    have e5 : ((1 : Nat) : Int) = 1 := rfl
    rw [e5] at e3
    rw [e1, e2]
    simp (disch := omega) only [ev, if_pos, e_and, e3, u32_eql, e_xor, w64, e4]
    simp only [crcBits, crcBit] at h
    split
    · rename_i h1; rw [if_pos h1] at h; exact ih _ (by omega) h
    · rename_i h1; rw [if_neg h1] at h; exact ih _ (by omega) h

theorem Sum_loop {M : Store} {x : Value} {l : List UInt8} (hx : B M x l) (hl : l.length ≤ 2 ^ 26) {Q : Value → Store → Prop} : ∀ (d i : Nat) (c : BitVec 32), d + i = l.length → Q (u32v (crcL c (l.drop i) ^^^ 4294967295#32)) M →
    P_crcs_Sum_1 (u32v c) x (.int .i64 (l.length : Int)) (.int .i64 (i : Int)) M Q := by
  intro d
  induction d with
  | zero =>
    intro i c hi h
    apply T_crcs_Sum_1
    unfold S_crcs_Sum_1
    simp (disch := omega) only [ev, if_neg]
    apply T_crcs_Sum_3
    unfold S_crcs_Sum_3
    have e1 : (.int .u32 4294967295 : Value) = u32v 4294967295#32 := rfl
    rw [List.drop_of_length_le (by omega)] at h
    rw [e1, e_xor]
    exact ⟨rfl, h⟩
  | succ d ih =>
    intro i c hi h
    apply T_crcs_Sum_1
    unfold S_crcs_Sum_1
    obtain ⟨p, h1, h2⟩ := By.at hx (i := i) (by omega) .i64
    simp (disch := omega) only [ev, if_pos, h1, h2, cv_u32, e_xor]
    refine Sum_bits 8 _ (by omega) ?_
    apply T_crcs_Sum_4
    unfold S_crcs_Sum_4
    simp (disch := omega) only [ev, w64]
    refine ih (i + 1) _ (by omega) ?_
    rw [List.drop_eq_getElem_cons (by omega)] at h
    exact h

theorem Sum_ok {M : Store} {x : Value} {l : List UInt8} (hx : B M x l) (hl : l.length ≤ 2 ^ 26) : R F.crcs_Sum #[x] M fun v M' => M' = M ∧ v = u32v (crc l) := by
  apply T_crcs_Sum
  unfold S_crcs_Sum
  rw [hx.lenV]
  simp only [ev]
  exact Sum_loop hx hl l.length 0 4294967295#32 rfl ⟨rfl, rfl⟩

theorem RSum_bits {x0 x4 : Value} {M : Store} {Q : Value → Store → Prop} : ∀ (d : Nat) (c : BitVec 32), d ≤ 8 → P_fettleref1_Sum_4 x0 (u32v (crcBits d c)) x4 M Q → P_fettleref1_Sum_2 x0 (u32v c) x4 (.int .i64 (8 - d)) M Q := by
  intro d
  induction d with
  | zero =>
    intro c _ h
    apply T_fettleref1_Sum_2
    unfold S_fettleref1_Sum_2
    simp (disch := omega) only [ev, if_neg]
    exact h
  | succ d ih =>
    intro c hd h
    apply T_fettleref1_Sum_2
    unfold S_fettleref1_Sum_2
    have e1 : (.int .u32 1 : Value) = u32v 1#32 := rfl
    have e2 : (.int .u32 3988292384 : Value) = u32v 3988292384#32 := rfl
    have e3 := u32_shr c 1 (by omega)
    have e4 : (8 - ((d + 1 : Nat) : Int)) + 1 = 8 - (d : Int) := by omega
    have e5 : ((1 : Nat) : Int) = 1 := rfl
    rw [e5] at e3
    rw [e1, e2]
    simp (disch := omega) only [ev, if_pos, e_and, e3, u32_eql, e_xor, w64, e4]
    simp only [crcBits, crcBit] at h
    split
    · rename_i h1; rw [if_pos h1] at h; exact ih _ (by omega) h
    · rename_i h1; rw [if_neg h1] at h; exact ih _ (by omega) h

theorem RSum_loop {M : Store} {x : Value} {l : List UInt8} (hx : B M x l) (hl : l.length ≤ 2 ^ 26) {Q : Value → Store → Prop} : ∀ (d i : Nat) (c : BitVec 32), d + i = l.length → Q (u32v (crcL c (l.drop i) ^^^ 4294967295#32)) M →
    P_fettleref1_Sum_1 x (u32v c) (.int .i64 (i : Int)) M Q := by
  intro d
  induction d with
  | zero =>
    intro i c hi h
    apply T_fettleref1_Sum_1
    unfold S_fettleref1_Sum_1
    rw [hx.lenV]
    simp (disch := omega) only [ev, if_neg]
    apply T_fettleref1_Sum_3
    unfold S_fettleref1_Sum_3
    have e1 : (.int .u32 4294967295 : Value) = u32v 4294967295#32 := rfl
    rw [List.drop_of_length_le (by omega)] at h
    rw [e1, e_xor]
    exact ⟨rfl, h⟩
  | succ d ih =>
    intro i c hi h
    apply T_fettleref1_Sum_1
    unfold S_fettleref1_Sum_1
    rw [hx.lenV]
    obtain ⟨p, h1, h2⟩ := By.at hx (i := i) (by omega) .i64
    simp (disch := omega) only [ev, if_pos, h1, h2, cv_u32, e_xor]
    refine RSum_bits 8 _ (by omega) ?_
    apply T_fettleref1_Sum_4
    unfold S_fettleref1_Sum_4
    simp (disch := omega) only [ev, w64]
    refine ih (i + 1) _ (by omega) ?_
    rw [List.drop_eq_getElem_cons (by omega)] at h
    exact h

theorem RSum_ok {M : Store} {x : Value} {l : List UInt8} (hx : B M x l) (hl : l.length ≤ 2 ^ 26) : R F.fettleref1_Sum #[x] M fun v M' => M' = M ∧ v = u32v (crc l) := by
  apply T_fettleref1_Sum
  unfold S_fettleref1_Sum
  exact RSum_loop hx hl l.length 0 4294967295#32 rfl ⟨rfl, rfl⟩


theorem call_fn (k : Nat) (f : FuncId) : CallOk1 Try.prog f (acall Try.prog Ex k true f) := call_fnE Ex (fun f g h => by cases h) k rfl

/-! ## a sum at once -/
def fbit (c : Nat) : Nat := bif Nat.beq (Nat.land c 1) 1 then Nat.xor (Nat.div c 2) 3988292384 else Nat.div c 2
def fbyte (c n : Nat) : Nat := fbit (fbit (fbit (fbit (fbit (fbit (fbit (fbit (Nat.xor c n))))))))
def crcV : List Value → Nat → Option Nat
  | [], c => some c
  | .int .u8 (.ofNat n) :: r, c => bif Nat.blt n 256 then (bif Nat.blt (fbyte c n) 4294967296 then crcV r (fbyte c n) else none) else none
  | _ :: _, _ => none

theorem fbit_eq (c : BitVec 32) : fbit c.toNat = (crcBit c).toNat := by
  have h1 : Nat.land c.toNat 1 = (c &&& 1#32).toNat := by rw [BitVec.toNat_and]; rfl
  have h2 : Nat.div c.toNat 2 = (c >>> 1).toNat := by rw [BitVec.toNat_ushiftRight, Nat.shiftRight_eq_div_pow]; rfl
  unfold fbit crcBit
  rw [h1, h2]
  by_cases h : c &&& 1#32 = 1#32
  · rw [if_pos h, h]
    show Nat.xor (c >>> 1).toNat 3988292384 = _
    rw [BitVec.toNat_xor]; rfl
  · rw [if_neg h]
    have : Nat.beq (c &&& 1#32).toNat 1 = false := by
      cases hb : Nat.beq (c &&& 1#32).toNat 1 with
      | false => rfl
      | true => exact absurd (BitVec.eq_of_toNat_eq (by have := Nat.eq_of_beq_eq_true hb; simpa using this)) h
    rw [this]; rfl
theorem fbyte_eq (c : BitVec 32) (x : UInt8) : fbyte c.toNat x.toNat = (crcByte c x).toNat := by
  have : Nat.xor c.toNat x.toNat = (c ^^^ x.toBitVec.setWidth 32).toNat := by
    rw [BitVec.toNat_xor, BitVec.toNat_setWidth]
    have h := x.toBitVec.isLt
    rw [Nat.mod_eq_of_lt (by omega)]; rfl
  unfold fbyte crcByte
  rw [this]
  simp only [fbit_eq, crcBits]
theorem crcV_of : ∀ (cs : List Value) (c : BitVec 32) (r : Nat), crcV cs c.toNat = some r → ∃ l : List UInt8, cs = l.map bv ∧ r = (crcL c l).toNat
  | [], c, r, h => by injection h with h; exact ⟨[], rfl, h.symm⟩
  | v :: cs, c, r, h => by
    unfold crcV at h
    split at h
    · cases ‹_ :: _ = []›
    · rename_i r' n c' heq
      injection heq with h1 h2
      subst h1; subst h2
      cases hn : Nat.blt n 256 with
      | false => rw [hn] at h; cases h
      | true =>
        rw [hn, cond_true] at h
        have hn' : n < 256 := by simpa [Nat.blt_eq] using hn
        have hx : n = (UInt8.ofNat n).toNat := by rw [UInt8.toNat_ofNat']; omega
        rw [hx, fbyte_eq] at h
        cases hb : Nat.blt (crcByte c (UInt8.ofNat n)).toNat 4294967296 with
        | false => rw [hb] at h; cases h
        | true =>
          rw [hb, cond_true] at h
          obtain ⟨l, h3, h4⟩ := crcV_of cs _ r h
          exact ⟨UInt8.ofNat n :: l, by rw [List.map_cons, ← h3]; unfold bv; rw [← hx]; rfl, h4⟩
    · cases h

def cellsB (a : Option Addr) (n : Nat) (M : Store) : Option (List Value) := bif Nat.beq n 0 then (match a with
    | none => some []
    | some ⟨_, _, none⟩ => some []
    | some ⟨_, _, some _⟩ => none)
  else match a with
    | some ⟨b, o, none⟩ => bif elemOk M (some ⟨b, o, none⟩) Ty.uint8 then rowOf M b o n else none
    | _ => none
theorem cellsB_of {a : Option Addr} {n c : Nat} {M : Store} {cs : List Value} (h : cellsB a n M = some cs) : Sl 1 Ty.uint8 M (.slice a n c) n cs := by
  unfold cellsB at h
  cases hn : Nat.beq n 0 with
  | true =>
    rw [hn, cond_true] at h
    obtain rfl := Nat.eq_of_beq_eq_true hn
    split at h
    · injection h with h; subst h; exact ⟨rfl, none, c, rfl, (fun _ h => by cases h), fun h => absurd h (Nat.lt_irrefl 0)⟩
    · rename_i b o
      injection h with h; subst h; exact ⟨rfl, some ⟨b, o, none⟩, c, rfl, fun x hx => by injection hx with hx; subst hx; rfl, fun h => absurd h (Nat.lt_irrefl 0)⟩
    · cases h
  | false =>
    rw [hn, cond_false] at h
    split at h
    · rename_i b o
      cases he : elemOk M (some ⟨b, o, none⟩) Ty.uint8 with
      | false => rw [he] at h; cases h
      | true =>
        rw [he, cond_true] at h
        unfold rowOf at h
        split at h
        · rename_i cells e' own hg
          split at h
          · rename_i hle
            injection h with h; subst h
            refine ⟨by simp; omega, some ⟨b, o, none⟩, c, rfl, fun x hx => by injection hx with hx; subst hx; rfl, fun _ => ⟨b, o, cells, e', own, rfl, hg, fun ho => ?_, by omega, by rw [Nat.mul_one]⟩⟩
            unfold elemOk at he
            simp only [hg, ho] at he
            simpa using he
          · cases h
        · cases h
    · cases h
def sumX : Array Value → Store → Option (Value × Store) := fun args M => match args.toList with
  | [.slice a n _] => bif Nat.ble n 67108864 then (cellsB a n M).bind fun cs => (crcV cs 4294967295).bind fun r => some (.int .u32 (.ofNat (Nat.xor r 4294967295)), M) else none
  | _ => none
theorem sumX_of {args : Array Value} {M : Store} {r : Value × Store} (h : sumX args M = some r) : ∃ v, ∃ l : List UInt8, args = #[v] ∧ By Ty.uint8 M v l ∧ l.length ≤ 2 ^ 26 ∧ r = (u32v (crc l), M) := by
  unfold sumX at h
  split at h
  · rename_i a n c hargs
    cases hn : Nat.ble n 67108864 with
    | false => rw [hn] at h; cases h
    | true =>
      rw [hn, cond_true] at h
      obtain ⟨cs, h1, h2⟩ := Option.bind_eq_some_iff.1 h
      obtain ⟨r', h3, h4⟩ := Option.bind_eq_some_iff.1 h2
      injection h4 with h4; subst h4
      have hs := cellsB_of (c := c) h1
      obtain ⟨l, h5, h6⟩ := crcV_of cs 4294967295#32 r' h3
      have hl : l.length = n := by have := hs.len; rw [h5, List.length_map, Nat.mul_one] at this; exact this
      refine ⟨_, l, by apply Array.toList_inj.1; simpa using hargs, ?_, ?_, ?_⟩
      · subst hl; rw [h5] at hs; exact hs
      · have := Nat.le_of_ble_eq_true hn; omega
      · rw [h6]
        unfold u32v crc
        rw [BitVec.toNat_xor]; rfl
  · cases h
theorem sumX_ok1 : CallOk1 Try.prog F.crcs_Sum sumX := by
  intro args M v M' h
  obtain ⟨x, l, rfl, hb, hl, hr⟩ := sumX_of h
  injection hr with h1 h2; subst h1; subst h2
  obtain ⟨k, v, M', h3, rfl, rfl⟩ := Sum_ok hb hl
  exact call_fn k F.crcs_Sum _ _ _ _ h3
theorem sumX_ok2 : CallOk1 Try.prog F.fettleref1_Sum sumX := by
  intro args M v M' h
  obtain ⟨x, l, rfl, hb, hl, hr⟩ := sumX_of h
  injection hr with h1 h2; subst h1; subst h2
  obtain ⟨k, v, M', h3, rfl, rfl⟩ := RSum_ok hb hl
  exact call_fn k F.fettleref1_Sum _ _ _ _ h3
/-- Sums are told at once. -/
def E1 : Ext := fun f => bif Nat.beq f F.crcs_Sum then some sumX else bif Nat.beq f F.fettleref1_Sum then some sumX else none
theorem E1_ok : ∀ f g, E1 f = some g → CallOk1 Try.prog f g := by
  intro f g h
  unfold E1 at h
  cases h1 : Nat.beq f F.crcs_Sum with
  | true => rw [h1, cond_true] at h; injection h with h; subst h; obtain rfl := Nat.eq_of_beq_eq_true h1; exact sumX_ok1
  | false =>
    rw [h1, cond_false] at h
    cases h2 : Nat.beq f F.fettleref1_Sum with
    | true => rw [h2, cond_true] at h; injection h with h; subst h; obtain rfl := Nat.eq_of_beq_eq_true h2; exact sumX_ok2
    | false => rw [h2] at h; cases h
end Go.G0
