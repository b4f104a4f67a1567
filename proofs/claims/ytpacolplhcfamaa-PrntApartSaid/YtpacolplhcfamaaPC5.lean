/- The document's own readers. -/
import Derived.Test.YtpacolplhcfamaaPC4
namespace Go.G
open Go.Ab Go.Proofs Go.RowKit
set_option linter.unusedVariables false
set_option linter.unusedSimpArgs false

theorem rnum_loop {M : Store} {b : Nat} {w : Value} {l : List UInt8} (hb : Ob M b [w, .bool false] Ty.fettleref1_Reader) (hw : B M w l) (hl : 6 ≤ l.length) {top : Int} {Q : Value → Store → Prop} : ∀ (d i : Nat), d + i = 6 →
    P_fettleref1_Reader_Num_3 (.pointer (some ⟨b, 0, none⟩)) (.int .i64 top) (.int .i64 (numOf (l.take 6) : Int)) M Q →
    P_fettleref1_Reader_Num_1 (.pointer (some ⟨b, 0, none⟩)) (.int .i64 top) (.int .i64 (numOf (l.take i) : Int)) (.int .i64 (i : Int)) M Q := by
  intro d
  induction d with
  | zero =>
    intro i hi h
    apply T_fettleref1_Reader_Num_1
    unfold S_fettleref1_Reader_Num_1
    simp (disch := omega) only [ev, if_neg]
    obtain rfl : i = 6 := by omega
    exact h
  | succ d ih =>
    intro i hi h
    apply T_fettleref1_Reader_Num_1
    unfold S_fettleref1_Reader_Num_1
    simp (disch := omega) only [ev, if_pos]
    apply T_fettleref1_Reader_Num_2
    unfold S_fettleref1_Reader_Num_2
    obtain ⟨p, h1, h2⟩ := By.at hw (i := i) (by omega) .i64
    have hlt := numOf_lt (l.take i)
    have hle : (l.take i).length ≤ 5 := by simp; omega
    have hp : 256 ^ (l.take i).length ≤ 256 ^ 5 := Nat.pow_le_pow_right (by omega) hle
    have ht : l.take (i + 1) = l.take i ++ [l[i]] := List.take_succ_eq_append_getElem (by omega)
    have hs := numOf_step (l.take i) l[i]
    rw [← ht] at hs
    have e0 := hb.ld (o := 0) rfl
    have hc := (l[i]).toNat_lt
    rw [e_shl (by omega)]
    have e1 : min (Int.toNat 8) (IntKind.bits .i64) = 8 := rfl
    have e2 : IntKind.wrap .i64 ((numOf (l.take i) : Int) * 2 ^ (min (Int.toNat 8) (IntKind.bits .i64))) = ((numOf (l.take i) * 2 ^ 8 : Nat) : Int) := by
      rw [e1, w64] <;> omega
    have e3 : IntKind.wrap .i64 ((l[i]).toNat : Int) = ((l[i]).toNat : Int) := w64 (by omega) (by omega)
    simp only [ev, Nat.zero_add, e0, h1, h2, e2]
    unfold bv
    rw [e_cvI, e3, or_add hc (by omega) (by omega), OP_some]
    have e4 : numOf (l.take i) * 2 ^ 8 + (l[i]).toNat = numOf (l.take (i + 1)) := by rw [hs]
    rw [e4, w64 (by omega) (by omega)]
    exact ih (i + 1) (by omega) h

theorem rrNum_ok {M : Store} {b : Nat} {l : List UInt8} {bad : Bool} {top : Nat} (h : Rd Ty.fettleref1_Reader M b l bad) (ht : top ≤ 2 ^ 40) (hl : l.length ≤ 2 ^ 24) :
    R F.fettleref1_Reader_Num #[.pointer (some ⟨b, 0, none⟩), .int .i64 top] M fun v M' => Ch [b] M M' ∧ match rdNum top l bad with
      | some (n, r) => v = .int .i64 n ∧ Rd Ty.fettleref1_Reader M' b r false
      | none => v = .int .i64 0 ∧ Rd Ty.fettleref1_Reader M' b l true := by
  obtain ⟨w, hb, hw⟩ := h
  refine R.cps fun Q hQ => ?_
  have hfail : ∀ bd, Ob M b [w, .bool bd] Ty.fettleref1_Reader → rdNum top l bad = none → OP (st 1 (.pointer (some ⟨b, 1, none⟩)) (.bool true) M) fun M1 => NTs [.int .i64 0] ∧ Q (.int .i64 0) M1 := by
    intro bd hb hr
    rw [hb.st (o := 1) (by simp) rfl rfl, OP_some]
    refine ⟨rfl, hQ _ _ ⟨Ch.setO hb _, ?_⟩⟩
    rw [hr]
    exact ⟨rfl, w, hb.setSt _, B.set hb ne_rrd _ hw⟩
  apply T_fettleref1_Reader_Num
  unfold S_fettleref1_Reader_Num
  have e0 := hb.ld (o := 0) rfl
  have e1 := hb.ld (o := 1) rfl
  simp only [ev, Nat.zero_add, e0, e1]
  cases bad with
  | true =>
    simp only [ev]
    exact hfail _ hb (by simp [rdNum])
  | false =>
    simp only [ev, hw.lenV]
    by_cases h6 : l.length < 6
    · rw [if_pos (by omega)]
      exact hfail _ hb (by simp [rdNum, h6])
    · rw [if_neg (by omega)]
      refine rnum_loop (top := (top : Int)) hb hw (by omega) 6 0 rfl ?_
      apply T_fettleref1_Reader_Num_3
      unfold S_fettleref1_Reader_Num_3
      by_cases hgt : numOf (l.take 6) > top
      · simp (disch := omega) only [ev, if_pos]
        exact hfail _ hb (by simp [rdNum, h6, hgt])
      · obtain ⟨u2, e4, hu2⟩ := By.cut hw (lo := some (.int .i64 6)) (hi := none) (a := 6) (r := l.length) rfl (abound_some (by omega) (by omega)) (by omega) (by omega)
        obtain ⟨a, c, rfl⟩ := hu2.slice
        simp (disch := omega) only [ev, if_neg, Nat.zero_add, e0, e4]
        rw [hb.st (o := 0) (by simp) rfl rfl, OP_some]
        have hr : rdNum top l false = some (numOf (l.take 6), l.drop 6) := by simp [rdNum, h6, hgt]
        refine ⟨rfl, hQ _ _ ⟨Ch.setO hb _, ?_⟩⟩
        rw [hr]
        refine ⟨rfl, _, hb.setSt _, B.set hb ne_rrd _ ?_⟩
        simpa using hu2

theorem rdNum_len {top : Nat} {l : List UInt8} {bad : Bool} {n : Nat} {r : List UInt8} (h : rdNum top l bad = some (n, r)) : r.length + 6 = l.length ∧ n ≤ top := by
  simp only [rdNum] at h
  split at h
  · cases h
  · split at h
    · cases h
    · simp only [Option.some.injEq, Prod.mk.injEq] at h
      obtain ⟨rfl, rfl⟩ := h; simp; omega

/-- What is left of a document's reader. -/
theorem rrBytes_ok {M : Store} {b : Nat} {l : List UInt8} {bad : Bool} {top : Nat} (h : Rd Ty.fettleref1_Reader M b l bad) (ht : top ≤ 2 ^ 40) (hl : l.length ≤ 2 ^ 24) :
    R F.fettleref1_Reader_Bytes #[.pointer (some ⟨b, 0, none⟩), .int .i64 top] M fun v M' => Ch [b] M M' ∧ match rdBytes top l bad with
      | some (x, r) => B M' v x ∧ Rd Ty.fettleref1_Reader M' b r false
      | none => B M' v [] ∧ ∃ r, r.length ≤ l.length ∧ Rd Ty.fettleref1_Reader M' b r true := by
  refine R.cps fun Q hQ => ?_
  apply T_fettleref1_Reader_Bytes
  unfold S_fettleref1_Reader_Bytes
  refine (rrNum_ok h ht hl).mono fun v1 M1 ⟨hc1, h1⟩ => ?_
  have hfail : ∀ w bd r, Ob M1 b [w, .bool bd] Ty.fettleref1_Reader → B M1 w r → r.length ≤ l.length → rdBytes top l bad = none → OP (st 1 (.pointer (some ⟨b, 1, none⟩)) (.bool true) M1) fun M2 => NTs [.slice none 0 0] ∧ Q (.slice none 0 0) M2 := by
    intro w bd r hb hw hrl hr
    rw [hb.st (o := 1) (by simp) rfl rfl, OP_some]
    refine ⟨rfl, hQ _ _ ⟨hc1.trans (Ch.setO hb _), ?_⟩⟩
    rw [hr]
    exact ⟨Sl.nil _ _ _, r, hrl, w, hb.setSt _, B.set hb ne_rrd _ hw⟩
  cases hnum : rdNum top l bad with
  | none =>
    rw [hnum] at h1
    obtain ⟨rfl, w, hb, hw⟩ := h1
    have e1 := hb.ld (o := 1) rfl
    simp only [ev, Nat.zero_add, e1]
    exact hfail w true l hb hw (Nat.le_refl _) (by simp [rdBytes, hnum])
  | some p =>
    obtain ⟨n, r⟩ := p
    rw [hnum] at h1
    obtain ⟨rfl, w, hb, hw⟩ := h1
    obtain ⟨hrl, hnt⟩ := rdNum_len hnum
    have e0 := hb.ld (o := 0) rfl
    have e1 := hb.ld (o := 1) rfl
    simp only [ev, Nat.zero_add, e1, e0, hw.lenV]
    by_cases hn : n ≤ r.length
    · rw [if_neg (by omega)]
      have hup := Up.push M1 (some (.inl (([] : List Value), Ty.uint8, true)))
      have hb2 := hb.up hup
      have e2 := hb2.ld (o := 0) rfl
      obtain ⟨u, e3, hu⟩ := By.cut (Sl.up hw hup) (lo := none) (hi := some (.int .i64 n)) (a := 0) (r := n) (by simpa using abound_some (k := .i64) (d := r.length) (i := (n : Int)) (y := r.length) (by omega) (by omega)) rfl (by omega) (by omega)
      rw [List.drop_zero] at hu
      simp only [e2, e3, ev]
      have hn0 : N M1 (M1.push (some (.inl (([] : List Value), Ty.uint8, true)))) (.slice (some ⟨M1.n, 0, none⟩) 0 0) [] := Nw.lit (n := 0) (cs := []) (Nat.le_refl _) (by simp)
      obtain ⟨v3, M3, e4, hu3, h3, _⟩ := NB.app hup hn0 hu (by simp; omega)
      rw [List.nil_append] at h3
      rw [e4, OP2_some]
      have hb3 := hb.up hu3
      have e5 := hb3.ld (o := 0) rfl
      obtain ⟨u2, e6, hu2⟩ := By.cut (Sl.up hw hu3) (lo := some (.int .i64 n)) (hi := none) (a := n) (r := r.length) rfl (by simpa using abound_some (i := (n : Int)) (y := r.length) (d := 0) (k := .i64) (by omega) (by omega)) (by omega) (by omega)
      rw [List.take_length] at hu2
      obtain ⟨a, c, rfl⟩ := hu2.slice
      simp only [e5, e6, ev]
      rw [hb3.st (o := 0) (by simp) rfl rfl, OP_some]
      refine ⟨nts_of h3.sl, hQ _ _ ⟨(hc1.up hu3).trans (Ch.setO hb3 _), ?_⟩⟩
      simp only [rdBytes, hnum, Option.bind_some]
      rw [if_neg (by omega)]
      exact ⟨B.set hb3 ne_rrd _ h3.by, _, hb3.setSt _, B.set hb3 ne_rrd _ hu2⟩
    · rw [if_pos (by omega)]
      exact hfail w false r hb hw (by omega) (by simp only [rdBytes, hnum, Option.bind_some]; rw [if_pos (by omega)])

end Go.G
