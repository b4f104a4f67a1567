/- Readers: numbers and bytes read one behind the other. -/
import Derived.Test.YtpacolplhcfamaaPGA
import Derived.Test.YtpacolplhcfamaaPU1
import Derived.Test.YtpacolplhcfamaaPC3
namespace Go.G
open Go.Ab Go.Proofs Go.RowKit
set_option linter.unusedVariables false
set_option linter.unusedSimpArgs false

def numOf (l : List UInt8) : Nat := l.foldl (fun n c => n * 256 + c.toNat) 0
/-- The next number, and what is left. -/
def rdNum (top : Nat) (l : List UInt8) (bad : Bool) : Option (Nat × List UInt8) :=
  if bad = true ∨ l.length < 6 then none else if numOf (l.take 6) > top then none else some (numOf (l.take 6), l.drop 6)
/-- The next bytes, and what is left. -/
def rdBytes (top : Nat) (l : List UInt8) (bad : Bool) : Option (List UInt8 × List UInt8) :=
  (rdNum top l bad).bind fun p => if p.1 > p.2.length then none else some (p.2.take p.1, p.2.drop p.1)

/-- A reader. -/
def Rd (T : TypeId) (M : Store) (b : Nat) (l : List UInt8) (bad : Bool) : Prop := ∃ w, Ob M b [w, .bool bad] T ∧ B M w l
theorem Rd.up {T M M' b l bad} (h : Rd T M b l bad) (k : Up M M') : Rd T M' b l bad := by
  obtain ⟨w, h1, h2⟩ := h; exact ⟨w, h1.up k, Sl.up h2 k⟩
theorem numOf_step (l : List UInt8) (c : UInt8) : numOf (l ++ [c]) = numOf l * 256 + c.toNat := by simp [numOf]
theorem numOf_lt (l : List UInt8) : numOf l < 256 ^ l.length := by
  have : ∀ (l : List UInt8) (n k : Nat), n < 256 ^ k → l.foldl (fun n c => n * 256 + c.toNat) n < 256 ^ (k + l.length) := by
    intro l
    induction l with
    | nil => intro n k h; exact h
    | cons c l ih =>
      intro n k h
      rw [List.foldl_cons, List.length_cons, show k + (l.length + 1) = (k + 1) + l.length by omega]
      refine ih _ _ ?_
      have := c.toNat_lt
      rw [Nat.pow_succ]; omega
  have := this l 0 0 (by simp)
  simpa [numOf] using this

theorem ne_rd : Ty.uint8 ≠ Ty.code_Reader := by decide
theorem ne_rrd : Ty.uint8 ≠ Ty.fettleref1_Reader := by decide

theorem B.set {M : Store} {b : Nat} {cells : List Value} {T : TypeId} (hb : Ob M b cells T) (hT : Ty.uint8 ≠ T) (c' : List Value) {w : Value} {l : List UInt8} (h : B M w l) : B (M.set b (some (.inl (c', T, true)))) w l :=
  Sl.keep h hT ((Ch.setO hb _).keepT hb)

/-- One step of a number that is read. -/
theorem shl_or {n : Nat} (hn : n < 256 ^ 5) (c : UInt8) (K : Value → Prop) : (OP (binI .shl (.int .i64 (n : Int)) (.int .u64 8)) fun t33 => OP (cvI .i64 (bv c)) fun t35 => OP (binI .or t33 t35) K) = K (.int .i64 ((n * 256 + c.toNat : Nat) : Int)) := by
  have hc := c.toNat_lt
  rw [e_shl (by omega)]
  unfold bv
  rw [e_cvI]
  have e1 : min (Int.toNat 8) (IntKind.bits .i64) = 8 := rfl
  have e2 : IntKind.wrap .i64 ((n : Int) * 2 ^ (min (Int.toNat 8) (IntKind.bits .i64))) = ((n * 2 ^ 8 : Nat) : Int) := by
    rw [e1, w64] <;> omega
  have e3 : IntKind.wrap .i64 (c.toNat : Int) = (c.toNat : Int) := w64 (by omega) (by omega)
  rw [e2, e3, or_add hc (by omega) (by omega), OP_some]

theorem fail_ok {M : Store} {b : Nat} {w : Value} {bad : Bool} (h : Ob M b [w, .bool bad] Ty.code_Reader) : R F.code_Reader_fail #[.pointer (some ⟨b, 0, none⟩)] M fun v M' => v = .tuple #[] ∧ Ch [b] M M' ∧ Rd Ty.code_Reader M' b [] true := by
  refine R.cps fun Q hQ => ?_
  apply T_code_Reader_fail
  unfold S_code_Reader_fail
  have h1 := h.setSt ([w, .bool bad].set 0 (.slice none 0 0))
  simp only [ev, Nat.zero_add]
  rw [h.st (o := 0) (by simp) rfl rfl, OP_some, h1.st (o := 1) (by simp) rfl rfl, OP_some]
  exact ⟨rfl, hQ _ _ ⟨rfl, (Ch.setO h _).trans (Ch.setO h1 _), .slice none 0 0, h1.setSt _, Sl.nil _ _ _⟩⟩

theorem num_loop {M : Store} {x0 w : Value} {l : List UInt8} (hw : B M w l) (hl : l.length = 6) {top : Int} {Q : Value → Store → Prop} : ∀ (d i : Nat), d + i = 6 → P_code_Reader_Num_2 x0 (.int .i64 top) (.int .i64 (numOf l : Int)) M Q →
    P_code_Reader_Num_1 x0 (.int .i64 top) (.int .i64 (numOf (l.take i) : Int)) w (.int .i64 6) (.int .i64 (i : Int)) M Q := by
  intro d
  induction d with
  | zero =>
    intro i hi h
    apply T_code_Reader_Num_1
    unfold S_code_Reader_Num_1
    simp (disch := omega) only [ev, if_neg]
    rw [List.take_of_length_le (by omega)]; exact h
  | succ d ih =>
    intro i hi h
    apply T_code_Reader_Num_1
    unfold S_code_Reader_Num_1
    obtain ⟨p, h1, h2⟩ := By.at hw (i := i) (by omega) .i64
    have hlt := numOf_lt (l.take i)
    have hle : (l.take i).length ≤ 5 := by simp; omega
    have hp : 256 ^ (l.take i).length ≤ 256 ^ 5 := Nat.pow_le_pow_right (by omega) hle
    have ht : l.take (i + 1) = l.take i ++ [l[i]] := List.take_succ_eq_append_getElem (by omega)
    have hs := numOf_step (l.take i) l[i]
    rw [← ht] at hs
    simp (disch := omega) only [ev, if_pos, h1, h2]
    rw [shl_or (by omega), ← hs, w64 (by omega) (by omega)]
    exact ih (i + 1) (by omega) h

theorem rNum_ok {M : Store} {b : Nat} {l : List UInt8} {bad : Bool} {top : Nat} (h : Rd Ty.code_Reader M b l bad) (ht : top ≤ 2 ^ 40) (hl : l.length ≤ 2 ^ 24) :
    R F.code_Reader_Num #[.pointer (some ⟨b, 0, none⟩), .int .i64 top] M fun v M' => Ch [b] M M' ∧ match rdNum top l bad with
      | some (n, r) => v = .int .i64 n ∧ Rd Ty.code_Reader M' b r false
      | none => v = .int .i64 0 ∧ Rd Ty.code_Reader M' b [] true := by
  obtain ⟨w, hb, hw⟩ := h
  refine R.cps fun Q hQ => ?_
  have hfail : rdNum top l bad = none → R F.code_Reader_fail #[.pointer (some ⟨b, 0, none⟩)] M fun t21 M1 => NTs [.int .i64 0] ∧ Q (.int .i64 0) M1 :=
    fun hr => (fail_ok hb).mono fun v M' ⟨_, h1, h2⟩ => ⟨rfl, hQ _ _ ⟨h1, by rw [hr]; exact ⟨rfl, h2⟩⟩⟩
  apply T_code_Reader_Num
  unfold S_code_Reader_Num
  have e0 := hb.ld (o := 0) rfl
  have e1 := hb.ld (o := 1) rfl
  simp only [ev, Nat.zero_add, e0, e1]
  cases bad with
  | true =>
    simp only [ev]
    exact hfail (by simp [rdNum])
  | false =>
    simp only [ev, hw.lenV]
    by_cases h6 : l.length < 6
    · rw [if_pos (by omega)]
      exact hfail (by simp [rdNum, h6])
    · rw [if_neg (by omega)]
      obtain ⟨u, e2, hu⟩ := By.cut hw (lo := none) (hi := some (.int .i64 6)) (a := 0) (r := 6) (abound_some (by omega) (by omega)) rfl (by omega) (by omega)
      rw [List.drop_zero] at hu
      have hl6 : (l.take 6).length = 6 := by simp; omega
      simp only [e2, ev, hu.lenV]
      rw [hl6]
      refine num_loop (x0 := .pointer (some ⟨b, 0, none⟩)) (top := (top : Int)) hu hl6 6 0 rfl ?_
      apply T_code_Reader_Num_2
      unfold S_code_Reader_Num_2
      by_cases hgt : numOf (l.take 6) > top
      · simp (disch := omega) only [ev, if_pos]
        exact hfail (by simp [rdNum, h6, hgt])
      · obtain ⟨u2, e4, hu2⟩ := By.cut hw (lo := some (.int .i64 6)) (hi := none) (a := 6) (r := l.length) rfl (abound_some (by omega) (by omega)) (by omega) (by omega)
        obtain ⟨a, c, rfl⟩ := hu2.slice
        simp (disch := omega) only [ev, if_neg, Nat.zero_add, e0, e4]
        rw [hb.st (o := 0) (by simp) rfl rfl, OP_some]
        have hr : rdNum top l false = some (numOf (l.take 6), l.drop 6) := by simp [rdNum, h6, hgt]
        refine ⟨rfl, hQ _ _ ⟨Ch.setO hb _, ?_⟩⟩
        rw [hr]
        refine ⟨rfl, _, hb.setSt _, B.set hb ne_rd _ ?_⟩
        simpa using hu2

theorem rBytesN_ok {M : Store} {b : Nat} {l : List UInt8} {bad : Bool} {top : Nat} (h : Rd Ty.code_Reader M b l bad) (ht : top ≤ 2 ^ 40) (hl : l.length ≤ 2 ^ 24) :
    R F.code_Reader_Bytes #[.pointer (some ⟨b, 0, none⟩), .int .i64 top] M fun v M' => Ch [b] M M' ∧ match rdBytes top l bad with
      | some (x, r) => N M M' v x ∧ Rd Ty.code_Reader M' b r false
      | none => N M M' v [] ∧ Rd Ty.code_Reader M' b [] true := by
  refine R.cps fun Q hQ => ?_
  apply T_code_Reader_Bytes
  unfold S_code_Reader_Bytes
  refine (rNum_ok h ht hl).mono fun v1 M1 ⟨hc1, h1⟩ => ?_
  have main : ∀ (n : Nat) (r : List UInt8) (bd : Bool), v1 = .int .i64 n → Rd Ty.code_Reader M1 b r bd → r.length ≤ 2 ^ 24 → n ≤ r.length →
      (∀ v' M', Ch [b] M M' → N M M' v' (r.take n) → Rd Ty.code_Reader M' b (r.drop n) bd → Q v' M') →
      OP (nilc (.pointer (some ⟨b, 0, none⟩))) fun t12 => OP (fad 0 t12) fun t13 => OP (ld 1 false t13 M1) fun t14 => OP (lenV t14) fun t15 => OP (binI .gtr v1 t15) fun t16 => BR t16
        (R F.code_Reader_fail #[.pointer (some ⟨b, 0, none⟩)] M1 fun t18 M2 => NTs [.slice none 0 0] ∧ Q (.slice none 0 0) M2)
        (OP (nilc (.pointer (some ⟨b, 0, none⟩))) fun t20 => OP (fad 0 t20) fun t21 => OP (ld 1 false t21 M1) fun t22 => OP (slV 1 Ty.uint8 t22 none (some v1) M1) fun t24 =>
          R F.slices_Clone_sl_byte_byte #[t24] M1 fun t25 M3 => OP (nilc (.pointer (some ⟨b, 0, none⟩))) fun t28 => OP (fad 0 t28) fun t29 => OP (ld 1 false t29 M3) fun t30 => OP (slV 1 Ty.uint8 t30 (some v1) none M3) fun t32 =>
          OP (nilc (.pointer (some ⟨b, 0, none⟩))) fun t33 => OP (fad 0 t33) fun t34 => OP (st 1 t34 t32 M3) fun M4 => NTs [t25] ∧ Q t25 M4) := by
    rintro n r bd rfl ⟨w, hb, hw⟩ hr hn hQ
    have e0 := hb.ld (o := 0) rfl
    simp (disch := omega) only [ev, Nat.zero_add, e0, hw.lenV, if_neg]
    obtain ⟨u, e2, hu⟩ := By.cut hw (lo := none) (hi := some (.int .i64 n)) (a := 0) (r := n) (by simpa using abound_some (k := .i64) (d := r.length) (i := (n : Int)) (y := r.length) (by omega) (by omega)) rfl (by omega) (by omega)
    rw [List.drop_zero] at hu
    simp only [e2, ev]
    refine (Clone_ok hu (by simp; omega)).mono fun v3 M3 ⟨hu3, h3⟩ => ?_
    have hb3 := hb.up hu3
    have e3 := hb3.ld (o := 0) rfl
    obtain ⟨u2, e4, hu2⟩ := By.cut (Sl.up hw hu3) (lo := some (.int .i64 n)) (hi := none) (a := n) (r := r.length) rfl (by simpa using abound_some (i := (n : Int)) (y := r.length) (d := 0) (k := .i64) (by omega) (by omega)) (by omega) (by omega)
    rw [List.take_length] at hu2
    obtain ⟨a, c, rfl⟩ := hu2.slice
    simp only [ev, Nat.zero_add, e3, e4]
    rw [hb3.st (o := 0) (by simp) rfl rfl, OP_some]
    refine ⟨nts_of h3.sl, hQ _ _ ?_ ?_ ?_⟩
    · exact (hc1.up hu3).trans (Ch.setO hb3 _)
    · exact Nw.keep (h3.base hc1.n) ne_rd ((Ch.setO hb3 _).keepT hb3)
    · exact ⟨_, hb3.setSt _, B.set hb3 ne_rd _ hu2⟩
  cases hnum : rdNum top l bad with
  | none =>
    rw [hnum] at h1
    refine main 0 [] true h1.1 h1.2 (by simp) (by simp) fun v' M' hc hv hr => hQ _ _ ⟨hc, ?_⟩
    simp only [rdBytes, hnum, Option.bind_none]
    exact ⟨by simpa using hv, by simpa using hr⟩
  | some p =>
    obtain ⟨n, r⟩ := p
    rw [hnum] at h1
    obtain ⟨rfl, hR⟩ := h1
    have hrl : r.length ≤ 2 ^ 24 := by
      simp only [rdNum] at hnum
      split at hnum
      · cases hnum
      · split at hnum
        · cases hnum
        · simp only [Option.some.injEq, Prod.mk.injEq] at hnum
          obtain ⟨_, rfl⟩ := hnum; simp; omega
    by_cases hn : n ≤ r.length
    · refine main n r false rfl hR hrl hn fun v' M' hc hv hr => hQ _ _ ⟨hc, ?_⟩
      simp only [rdBytes, hnum, Option.bind_some]
      rw [if_neg (by omega)]
      exact ⟨hv, hr⟩
    · obtain ⟨w, hb, hw⟩ := hR
      have e0 := hb.ld (o := 0) rfl
      simp (disch := omega) only [ev, Nat.zero_add, e0, hw.lenV, if_pos]
      refine (fail_ok hb).mono fun v' M' ⟨_, h2, h3⟩ => ⟨rfl, hQ _ _ ⟨hc1.trans h2, ?_⟩⟩
      simp only [rdBytes, hnum, Option.bind_some]
      rw [if_pos (by omega)]
      exact ⟨Nw.nil _ _ _ _, h3⟩

theorem rBytes_ok {M : Store} {b : Nat} {l : List UInt8} {bad : Bool} {top : Nat} (h : Rd Ty.code_Reader M b l bad) (ht : top ≤ 2 ^ 40) (hl : l.length ≤ 2 ^ 24) :
    R F.code_Reader_Bytes #[.pointer (some ⟨b, 0, none⟩), .int .i64 top] M fun v M' => Ch [b] M M' ∧ match rdBytes top l bad with
      | some (x, r) => B M' v x ∧ Rd Ty.code_Reader M' b r false
      | none => B M' v [] ∧ Rd Ty.code_Reader M' b [] true := by
  refine (rBytesN_ok h ht hl).mono fun v M' ⟨hc, h1⟩ => ⟨hc, ?_⟩
  split at h1
  · exact ⟨h1.1.by, h1.2⟩
  · exact ⟨h1.1.by, h1.2⟩

theorem Ok_ok {M : Store} {b : Nat} {l : List UInt8} {bad : Bool} (h : Rd Ty.code_Reader M b l bad) : R F.code_Reader_Ok #[.pointer (some ⟨b, 0, none⟩)] M fun v M' => M' = M ∧ v = .bool (!bad) := by
  obtain ⟨w, hb, hw⟩ := h
  refine R.cps fun Q hQ => ?_
  apply T_code_Reader_Ok
  unfold S_code_Reader_Ok
  have e1 := hb.ld (o := 1) rfl
  simp only [ev, Nat.zero_add, e1]
  exact ⟨rfl, hQ _ _ ⟨rfl, rfl⟩⟩

theorem Read_ok {M : Store} {v : Value} {l : List UInt8} (h : B M v l) (hl : l.length ≤ 2 ^ 24) : R F.code_Read #[v] M fun r M' => Up M M' ∧ ∃ b, r = .pointer (some ⟨b, 0, none⟩) ∧ M.n ≤ b ∧ Rd Ty.code_Reader M' b l false := by
  refine R.cps fun Q hQ => ?_
  apply T_code_Read
  unfold S_code_Read
  refine (Clone_ok h hl).mono fun v1 M1 ⟨hu1, h1⟩ => ?_
  obtain ⟨a, c, rfl⟩ := h1.sl.slice
  have e1 : bldS #[.slice none 0 0, .bool false] [(0, 1), (1, 1)] [(0, .slice a l.length c)] = some (.agg #[.slice a l.length c, .bool false]) := by kernel_rfl
  have e2 : boxv (.agg #[.slice a l.length c, .bool false]) = some [.slice a l.length c, .bool false] := by kernel_rfl
  simp only [e1, e2, ev]
  exact ⟨rfl, hQ _ _ ⟨hu1.push' _, M1.n, rfl, hu1.n, _, Ob.new _ _ _, Sl.up h1.by (Up.push _ _)⟩⟩

end Go.G
