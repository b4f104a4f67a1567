/- Numbers as bytes, copies of slices: what the calls come to. -/
import Derived.Test.YtnonfejhkbaikaaDoorPGA
import Derived.Test.YtnonfejhkbaikaaDoorPN0
import Derived.Test.YtnonfejhkbaikaaDoorPKE
namespace Go.G
open Go.Ab Go.Proofs Go.RowKit
set_option linter.unusedVariables false
set_option linter.unusedSimpArgs false

theorem Clone_ok {M : Store} {v : Value} {l : List UInt8} (h : B M v l) (hl : l.length ≤ 2 ^ 24) : R F.slices_Clone_sl_byte_byte #[v] M fun v' M' => Up M M' ∧ N M M' v' l := by
  apply T_slices_Clone_sl_byte_byte
  obtain ⟨a, c, rfl⟩ := h.slice
  unfold S_slices_Clone_sl_byte_byte
  rw [abin_nil U.sl_uint8]
  cases a with
  | none =>
    obtain ⟨h1, a, c', h2, h3, h4⟩ := h
    injection h2 with h2 h5 h6
    subst h2; subst h6
    have : l.length = 0 := by
      rcases Nat.eq_zero_or_pos l.length with h | h
      · exact h
      · obtain ⟨b, o, cells, e', own, h7, _⟩ := h4 h; cases h7
    have hl : l = [] := List.length_eq_zero_iff.1 this
    subst hl
    simp only [Option.isNone_none, ev]
    exact ⟨rfl, Ch.refl _ _, Nw.nil _ _ _ _⟩
  | some a =>
    simp only [Option.isNone_some, ev]
    have hn : N M (M.push (some (.inl (([] : List Value), Ty.uint8, true)))) (.slice (some ⟨M.n, 0, none⟩) 0 0) [] := Nw.lit (n := 0) (cs := []) (Nat.le_refl _) (by simp)
    obtain ⟨v', M', e, hu, hN, _⟩ := NB.app (Up.push M _) hn (Sl.up h (Up.push M _)) (by simp; omega)
    rw [e, OP2_some]
    refine ⟨?_, hu, by simpa using hN⟩
    obtain ⟨a, c, rfl⟩ := hN.sl.slice
    rfl

theorem slM_full {s e : Nat} {M0 M : Store} {v : Value} {n : Nat} {cs : List Value} (h : Nw s e M0 M v n cs) : ∃ v', slM s e v none (.int .i64 n) (.int .i64 n) M = some v' ∧ Nw s e M0 M v' n cs := by
  obtain ⟨h1, ⟨rfl, a, rfl, h2⟩ | ⟨b, cells, c, rfl, h2, h3, h4, h5, h6⟩⟩ := h
  · refine ⟨.slice a 0 0, ?_, h1, .inl ⟨rfl, a, rfl, h2⟩⟩
    cases a with
    | none => simp [slM, abound]
    | some x => obtain ⟨b, o, sp⟩ := x; simp [slM, abound, Addr.add]
  · refine ⟨.slice (some ⟨b, 0, none⟩) n n, ?_, h1, .inr ⟨b, cells, n, rfl, h2, h3, h4, h5, .inl rfl⟩⟩
    simp [slM, abound, elemOk, h3, Addr.add]

theorem Clip_ok {M0 M : Store} {v : Value} {l : List UInt8} (h : N M0 M v l) : R F.slices_Clip_sl_byte_byte #[v] M fun v' M' => M' = M ∧ N M0 M v' l := by
  apply T_slices_Clip_sl_byte_byte
  obtain ⟨v', e, h'⟩ := slM_full h
  unfold S_slices_Clip_sl_byte_byte
  rw [h.sl.lenV]
  simp only [ev, e]
  exact ⟨nts_of h'.sl, trivial, h'⟩

/-- The lowest k bytes of a number, the highest first. -/
def be : Nat → Nat → List UInt8
  | 0, _ => []
  | k + 1, n => UInt8.ofNat (n / 256 ^ k) :: be k n
theorem be_length (k n : Nat) : (be k n).length = k := by induction k <;> simp [be, *]
/-- A number held to its bounds. -/
def held (n : Int) : Nat := (min (max n 0) 1099511627776).toNat
theorem app1 {M0 M : Store} (hu : Up M0 M) {v : Value} {l : List UInt8} (h : N M0 M v l) (x : UInt8) (hz : l.length + 1 ≤ 2 ^ 28) {K : Value → Store → Prop} (hK : ∀ v' M', Up M0 M' → N M0 M' v' (l ++ [x]) → K v' M') :
    OP2 (appV 1 Ty.uint8 v (.slice (some ⟨M.n, 0, none⟩) 1 1) (M.push (some (.inl ([bv x], Ty.uint8, true))))) K := by
  have hx : N M0 (M.push (some (.inl ([bv x], Ty.uint8, true)))) (.slice (some ⟨M.n, 0, none⟩) 1 1) [x] := Nw.lit (n := 1) hu.le (by simp)
  obtain ⟨v', M', e, hu', hN, _⟩ := NB.app (hu.push' _) (Nw.up h (Up.push M _)) hx.by (by simpa using hz)
  rw [e, OP2_some]; exact hK v' M' hu' hN

theorem shr_byte (n j : Nat) : IntKind.wrap .u8 ((n : Int).fdiv (2 ^ (min ((8 : Int) * (j : Int)).toNat (IntKind.bits .i64)))) = ((UInt8.ofNat (n / 2 ^ (min (8 * j) 64))).toNat : Int) := by
  have : ((8 : Int) * (j : Int)).toNat = 8 * j := by omega
  rw [this, ← wrap_u8]
  congr 1
  rw [Int.fdiv_eq_ediv_of_nonneg _ (Int.pow_nonneg (by decide))]
  simp only [IntKind.bits]
  norm_cast

theorem Num_loop {M0 : Store} {n : Nat} (hn : n ≤ 1099511627776) {Q : Value → Store → Prop} : ∀ (d : Nat) (M : Store) (v : Value) (l : List UInt8), d ≤ 6 → l.length + d ≤ 2 ^ 26 → Up M0 M → N M0 M v l →
    (∀ v' M', Up M0 M' → N M0 M' v' (l ++ be d n) → Q v' M') → P_code_Num_1 (.int .i64 n) v (.int .i64 ((d : Int) - 1)) M Q := by
  intro d
  induction d with
  | zero =>
    intro M v l _ _ hu h hQ
    apply T_code_Num_1
    unfold S_code_Num_1
    simp (disch := omega) only [ev, if_neg, if_pos]
    apply T_code_Num_2
    exact ⟨nts_of h.sl, hQ _ _ hu (by simpa [be] using h)⟩
  | succ d ih =>
    intro M v l hd hl hu h hQ
    apply T_code_Num_1
    unfold S_code_Num_1
    have hd1 : ((d + 1 : Nat) : Int) - 1 = (d : Int) := by omega
    simp (disch := omega) only [ev, if_pos, w64, hd1, e_shr, shr_byte]
    refine app1 hu h _ (by omega) fun v' M' hu' h' => ?_
    refine ih M' v' _ (by omega) (by simp; omega) hu' h' fun v2 M2 hu2 h2 => hQ v2 M2 hu2 ?_
    rw [List.append_assoc] at h2
    have e : n / 2 ^ (min (8 * d) 64) = n / 256 ^ d := by
      rw [Nat.min_eq_left (by omega), Nat.pow_mul]
    rw [e] at h2
    exact h2

theorem clamp (n : Int) : (if (if (0 : Int) > n then (0 : Int) else n) > (1099511627776 : Int) then (1099511627776 : Int) else (if (0 : Int) > n then (0 : Int) else n)) = (held n : Int) := by
  unfold held; split <;> split <;> omega
theorem held_le (n : Int) : held n ≤ 1099511627776 := by unfold held; omega
theorem held_of {n : Nat} (h : n ≤ 1099511627776) : held (n : Int) = n := by unfold held; omega

theorem Num_ok {M : Store} {v : Value} {l : List UInt8} (h : B M v l) (hl : l.length ≤ 2 ^ 24) (n : Int) : R F.code_Num #[v, .int .i64 n] M fun v' M' => Up M M' ∧ N M M' v' (l ++ be 6 (held n)) := by
  apply T_code_Num
  unfold S_code_Num
  simp only [ev]
  refine (Clone_ok h hl).mono fun v1 M1 ⟨hu1, h1⟩ => ?_
  refine (Clip_ok h1).mono fun v2 M2 ⟨e2, h2⟩ => ?_
  subst e2
  have hc : (if (1099511627776 : Int) < (if (0 : Int) > n then (0 : Int) else n) then (1099511627776 : Int) else (if (0 : Int) > n then (0 : Int) else n)) = (held n : Int) := clamp n
  rw [hc]
  exact Num_loop (held_le n) 6 _ v2 l (by omega) (by omega) hu1 h2 fun v' M' hu' h' => ⟨hu', h'⟩

theorem Bytes_ok {M : Store} {v x : Value} {l k : List UInt8} (h : B M v l) (hx : B M x k) (hl : l.length ≤ 2 ^ 24) (hk : k.length ≤ 2 ^ 24) :
    R F.code_Bytes #[v, x] M fun v' M' => Up M M' ∧ N M M' v' (l ++ be 6 k.length ++ k) := by
  apply T_code_Bytes
  unfold S_code_Bytes
  rw [hx.lenV]
  simp only [ev]
  refine (Num_ok h hl _).mono fun v1 M1 ⟨hu1, h1⟩ => ?_
  rw [held_of (by omega)] at h1
  obtain ⟨v', M', e, hu', h', _⟩ := NB.app hu1 h1 (Sl.up hx hu1) (by simp [be_length]; omega)
  rw [e, OP2_some]
  exact ⟨nts_of h'.sl, hu', h'⟩

end Go.G
