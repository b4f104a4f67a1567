/- Frames found: the document's own scan. -/
import Derived.Test.YtpacolplhcfamaaPGA
import Derived.Test.YtpacolplhcfamaaPC5
namespace Go.G
open Go.Ab Go.Proofs Go.RowKit
set_option linter.unusedVariables false
set_option linter.unusedSimpArgs false

theorem rdBytes_iff {top : Nat} {l x r : List UInt8} : rdBytes top l false = some (x, r) ↔
    6 ≤ l.length ∧ numOf (l.take 6) ≤ top ∧ 6 + numOf (l.take 6) ≤ l.length ∧ x = (l.drop 6).take (numOf (l.take 6)) ∧ r = l.drop (6 + numOf (l.take 6)) := by
  by_cases h6 : l.length < 6
  · simp [rdBytes, rdNum, h6]; omega
  · by_cases ht : numOf (l.take 6) > top
    · simp [rdBytes, rdNum, h6, ht]; omega
    · by_cases hn : numOf (l.take 6) > (l.drop 6).length
      · have hd : (l.drop 6).length = l.length - 6 := List.length_drop
        simp only [rdBytes, rdNum, h6, ht, hn, or_false, if_false, if_true, Option.bind_some, Bool.false_eq_true]
        constructor
        · intro h; cases h
        · rintro ⟨_, _, h, _⟩; omega
      · have hd : (l.drop 6).length = l.length - 6 := List.length_drop
        simp only [rdBytes, rdNum, h6, ht, hn, or_false, if_false, Option.bind_some, Bool.false_eq_true, Option.some.injEq, Prod.mk.injEq, List.drop_drop]
        constructor
        · rintro ⟨rfl, rfl⟩; exact ⟨by omega, by omega, by omega, rfl, rfl⟩
        · rintro ⟨_, _, _, rfl, rfl⟩; exact ⟨rfl, rfl⟩
theorem rdBytes_len {top : Nat} {l x r : List UInt8} (h : rdBytes top l false = some (x, r)) : x.length ≤ top ∧ x.length + 6 + r.length = l.length ∧ r = l.drop (6 + x.length) := by
  obtain ⟨h1, h2, h3, rfl, rfl⟩ := rdBytes_iff.1 h
  have : ((l.drop 6).take (numOf (l.take 6))).length = numOf (l.take 6) := by simp; omega
  rw [this]
  exact ⟨h2, by simp; omega, rfl⟩

/-- What the frame holds that bytes begin with. -/
def oneF (b : List UInt8) : Option (List UInt8) :=
  (rdBytes 10000 b false).bind fun p => if p.2.length < 4 then none else if sum4 (crc (b.take (6 + p.1.length))) = p.2.take 4 then some p.1 else none
theorem oneF_len {b x : List UInt8} (h : oneF b = some x) : x.length + 10 ≤ b.length ∧ x.length ≤ 10000 := by
  simp only [oneF] at h
  obtain ⟨p, h1, h2⟩ := Option.bind_eq_some_iff.1 h
  obtain ⟨y, r⟩ := p
  have := rdBytes_len h1
  split at h2
  · cases h2
  · split at h2
    · injection h2 with h2; subst h2; simp only at *; omega
    · cases h2
/-- What the frames hold that bytes begin with, at most so many. -/
def scanN : Nat → List UInt8 → List (List UInt8)
  | 0, _ => []
  | k + 1, b => match oneF b with
    | none => []
    | some x => x :: scanN k (b.drop (x.length + 10))
def scanF (b : List UInt8) : List (List UInt8) := scanN b.length b
def flen (l : List (List UInt8)) : Nat := (l.map fun x => x.length + 10).sum
theorem scanN_more : ∀ (k k' : Nat) (b : List UInt8), b.length ≤ k → b.length ≤ k' → scanN k b = scanN k' b
  | 0, 0, _, _, _ => rfl
  | 0, k' + 1, b, h, _ => by
    have : b = [] := List.length_eq_zero_iff.1 (by omega)
    subst this; rfl
  | k + 1, 0, b, _, h => by
    have : b = [] := List.length_eq_zero_iff.1 (by omega)
    subst this; rfl
  | k + 1, k' + 1, b, h, h' => by
    simp only [scanN]
    cases ho : oneF b with
    | none => rfl
    | some x =>
      have := oneF_len ho
      simp only
      rw [scanN_more k k' _ (by simp; omega) (by simp; omega)]
theorem scanF_eq (b : List UInt8) : scanF b = match oneF b with
    | none => []
    | some x => x :: scanF (b.drop (x.length + 10)) := by
  cases hb : b.length with
  | zero =>
    have : b = [] := List.length_eq_zero_iff.1 hb
    subst this; rfl
  | succ k =>
    rw [scanF, hb, scanN]
    cases ho : oneF b with
    | none => rfl
    | some x =>
      have := oneF_len ho
      simp only
      rw [scanF, scanN_more k _ _ (by simp; omega) (Nat.le_refl _)]
theorem scanF_flen (b : List UInt8) : flen (scanF b) ≤ b.length := by
  have : ∀ k (b : List UInt8), flen (scanN k b) ≤ b.length := by
    intro k
    induction k with
    | zero => intro b; simp [scanN, flen]
    | succ k ih =>
      intro b
      simp only [scanN]
      cases ho : oneF b with
      | none => simp [flen]
      | some x =>
        have h1 := oneF_len ho
        have h2 := ih (b.drop (x.length + 10))
        simp only [flen, List.map_cons, List.sum_cons] at h2 ⊢
        simp only [List.length_drop] at h2
        omega
  exact this _ _
theorem scanF_count (b : List UInt8) : (scanF b).length * 10 ≤ b.length := by
  have h := scanF_flen b
  have : ∀ l : List (List UInt8), l.length * 10 ≤ flen l := by
    intro l
    induction l with
    | nil => simp
    | cons x l ih => simp only [flen, List.map_cons, List.sum_cons, List.length_cons] at *; omega
  have := this (scanF b)
  omega

theorem bv_neq (a b : UInt8) (K : Value → Prop) : OP (binI .neq (bv a) (bv b)) K = K (.bool (decide (a ≠ b))) := by
  unfold bv
  rw [e_neq]
  congr 2
  rw [decide_eq_decide]
  constructor
  · intro h e; subst e; exact h rfl
  · intro h e; apply h; apply UInt8.toNat_inj.1; omega

theorem frame_ok {M : Store} {v : Value} {l : List UInt8} (h : B M v l) (hl : l.length ≤ 2 ^ 24) {at_ : Nat} (hat : at_ ≤ l.length) :
    R F.fettleref1_frame #[v, .int .i64 at_] M fun r M' => Up M M' ∧ match oneF (l.drop at_) with
      | some x => ∃ w, r = .tuple #[w, .int .i64 ((at_ + (x.length + 10) : Nat) : Int), .bool true] ∧ B M' w x ∧ NTs [w]
      | none => r = .tuple #[.slice none 0 0, .int .i64 at_, .bool false] := by
  refine R.cps fun Q hQ => ?_
  apply T_fettleref1_frame
  unfold S_fettleref1_frame
  obtain ⟨u, e1, hu⟩ := By.cut h (lo := some (.int .i64 at_)) (hi := none) (a := at_) (r := l.length) rfl (abound_nat hat) (by omega) (by omega)
  rw [List.take_length] at hu
  have hdl : (l.drop at_).length = l.length - at_ := List.length_drop
  obtain ⟨a, c, rfl⟩ := hu.slice
  have e2 : bldS #[.slice none 0 0, .bool false] [(0, 1), (1, 1)] [(0, .slice a (l.drop at_).length c)] = some (.agg #[.slice a (l.drop at_).length c, .bool false]) := by kernel_rfl
  have e3 : boxv (.agg #[.slice a (l.drop at_).length c, .bool false]) = some [.slice a (l.drop at_).length c, .bool false] := by kernel_rfl
  simp only [e1, e2, e3, ev]
  have hup := Up.push M (some (.inl ([.slice a (l.drop at_).length c, .bool false], Ty.fettleref1_Reader, true)))
  have hR : Rd Ty.fettleref1_Reader (M.push (some (.inl ([.slice a (l.drop at_).length c, .bool false], Ty.fettleref1_Reader, true)))) M.n (l.drop at_) false :=
    ⟨_, Ob.new _ _ _, Sl.up hu hup⟩
  refine (rrBytes_ok (top := 10000) hR (by omega) (by omega)).mono fun v2 M2 ⟨hc2, h2⟩ => ?_
  have hu2 : Up M M2 := hup.ch hc2 fun b hb => by simp at hb; omega
  have none_ : ∀ M', Up M M' → oneF (l.drop at_) = none → NTs [.slice none 0 0, .int .i64 (at_ : Int), .bool false] ∧ Q (.tuple #[.slice none 0 0, .int .i64 (at_ : Int), .bool false]) M' := by
    intro M' hM hn
    exact ⟨rfl, hQ _ _ ⟨hM, by rw [hn]⟩⟩
  cases hb : rdBytes 10000 (l.drop at_) false with
  | none =>
    rw [hb] at h2
    obtain ⟨hv2, r, hrl, w, hob, hw⟩ := h2
    have e5 := hob.ld (o := 1) rfl
    simp only [ev, Nat.zero_add, e5]
    exact none_ _ hu2 (by simp [oneF, hb])
  | some p =>
    obtain ⟨x, r⟩ := p
    rw [hb] at h2
    obtain ⟨hv2, w, hob, hw⟩ := h2
    obtain ⟨hx1, hx2, hx3⟩ := rdBytes_len hb
    have e5 := hob.ld (o := 1) rfl
    have e6 := hob.ld (o := 0) rfl
    simp only [ev, Nat.zero_add, e5, e6, hw.lenV]
    by_cases h4 : r.length < 4
    · rw [if_pos (by omega)]
      exact none_ _ hu2 (by simp [oneF, hb, h4])
    · have e7 : IntKind.wrap .i64 (IntKind.wrap .i64 ((at_ : Int) + 6) + (x.length : Int)) = ((at_ + 6 + x.length : Nat) : Int) := by
        rw [w64 (x := (at_ : Int) + 6) (by omega) (by omega), w64 (by omega) (by omega)]; omega
      rw [if_neg (by omega), hv2.lenV]
      simp only [ev, e7]
      obtain ⟨u2, e8, hu8⟩ := By.cut (Sl.up h hu2) (lo := some (.int .i64 at_)) (hi := some (.int .i64 ((at_ + 6 + x.length : Nat) : Int))) (a := at_) (r := at_ + 6 + x.length) (abound_nat (by omega)) (abound_nat (by omega)) (by omega) (by omega)
      have e9 : (l.take (at_ + 6 + x.length)).drop at_ = (l.drop at_).take (6 + x.length) := by
        rw [List.drop_take]; congr 1; omega
      rw [e9] at hu8
      rw [e8, OP_some]
      refine (RSum_ok hu8 (by simp; omega)).mono fun v3 M3 ⟨hM3, hv3⟩ => ?_
      subst hM3; subst hv3
      -- the four bytes
      have hend : at_ + 6 + x.length + 4 ≤ l.length := by omega
      have hr : r = l.drop (at_ + 6 + x.length) := by rw [hx3, List.drop_drop]; congr 1; omega
      have hr4 : r.take 4 = [l[at_ + 6 + x.length], l[at_ + 6 + x.length + 1], l[at_ + 6 + x.length + 2], l[at_ + 6 + x.length + 3]] := by
        rw [hr, List.drop_eq_getElem_cons (by omega), List.drop_eq_getElem_cons (i := at_ + 6 + x.length + 1) (by omega), List.drop_eq_getElem_cons (i := at_ + 6 + x.length + 1 + 1) (by omega), List.drop_eq_getElem_cons (i := at_ + 6 + x.length + 1 + 1 + 1) (by omega)]
        rfl
      have hone : oneF (l.drop at_) = if sum4 (crc ((l.drop at_).take (6 + x.length))) = r.take 4 then some x else none := by
        simp only [oneF, hb, Option.bind_some]; rw [if_neg h4]
      rw [hr4] at hone
      generalize hc : crc ((l.drop at_).take (6 + x.length)) = cc at *
      have B2 : B M3 v l := Sl.up h hu2
      obtain ⟨p0, a0, b0⟩ := By.at B2 (i := at_ + 6 + x.length) (by omega) .i64
      obtain ⟨p1, a1, b1⟩ := By.at B2 (i := at_ + 6 + x.length + 1) (by omega) .i64
      obtain ⟨p2, a2, b2⟩ := By.at B2 (i := at_ + 6 + x.length + 2) (by omega) .i64
      obtain ⟨p3, a3, b3⟩ := By.at B2 (i := at_ + 6 + x.length + 3) (by omega) .i64
      have h24 := u32_shr cc 24 (by omega)
      have h16 := u32_shr cc 16 (by omega)
      have h8 := u32_shr cc 8 (by omega)
      simp only [Int.cast_ofNat_Int] at h24 h16 h8
      have i1 : IntKind.wrap .i64 (((at_ + 6 + x.length : Nat) : Int) + 1) = ((at_ + 6 + x.length + 1 : Nat) : Int) := by rw [w64 (by omega) (by omega)]; omega
      have i2 : IntKind.wrap .i64 (((at_ + 6 + x.length : Nat) : Int) + 2) = ((at_ + 6 + x.length + 2 : Nat) : Int) := by rw [w64 (by omega) (by omega)]; omega
      have i3 : IntKind.wrap .i64 (((at_ + 6 + x.length : Nat) : Int) + 3) = ((at_ + 6 + x.length + 3 : Nat) : Int) := by rw [w64 (by omega) (by omega)]; omega
      have i4 : IntKind.wrap .i64 (((at_ + 6 + x.length : Nat) : Int) + 4) = ((at_ + (x.length + 10) : Nat) : Int) := by rw [w64 (by omega) (by omega)]; omega
      simp only [a0, b0, ev, h24, cv_u8, bv_neq]
      split
      · rename_i hne
        exact none_ _ hu2 (by rw [hone, if_neg]; simp only [sum4, List.cons.injEq]; intro hh; exact hne hh.1.symm)
      rename_i k0
      simp only [i1, a1, b1, ev, h16, cv_u8, bv_neq]
      split
      · rename_i hne
        exact none_ _ hu2 (by rw [hone, if_neg]; simp only [sum4, List.cons.injEq]; intro hh; exact hne hh.2.1.symm)
      rename_i k1
      simp only [i2, a2, b2, ev, h8, cv_u8, bv_neq]
      split
      · rename_i hne
        exact none_ _ hu2 (by rw [hone, if_neg]; simp only [sum4, List.cons.injEq]; intro hh; exact hne hh.2.2.1.symm)
      rename_i k2
      simp only [i3, a3, b3, ev, cv_u8, bv_neq]
      split
      · rename_i hne
        exact none_ _ hu2 (by rw [hone, if_neg]; simp only [sum4, List.cons.injEq]; intro hh; exact hne hh.2.2.2.1.symm)
      rename_i k3
      simp only [i4, ev]
      obtain ⟨aw, cw, rfl⟩ := hv2.slice
      refine ⟨rfl, hQ _ _ ⟨hu2, ?_⟩⟩
      rw [hone, if_pos]
      · exact ⟨_, rfl, hv2, rfl⟩
      · simp only [sum4, List.cons.injEq, and_true]
        exact ⟨(Classical.not_not.1 k0).symm, (Classical.not_not.1 k1).symm, (Classical.not_not.1 k2).symm, (Classical.not_not.1 k3).symm⟩

theorem oneF_more {b x : List UInt8} (h : oneF b = some x) : x.length + 10 ≤ b.length := (oneF_len h).1

theorem ne_bb : Ty.uint8 ≠ Ty.sl_uint8 := by decide
theorem e_lit1s (z : Value) (a : Option Addr) (n c : Nat) (K : List Value → Prop) : OP (bldL z 1 1 [(0, .slice a n c)]) K = K [.slice a n c] := by kernel_rfl
theorem flen_append (a b : List (List UInt8)) : flen (a ++ b) = flen a + flen b := by simp [flen]
theorem ls_nts {α : Type} {E : Store → Value → α → Prop} {e M v} {xs : List α} (h : Ls E e M v xs) : ∃ a c, v = .slice a xs.length c := by
  obtain ⟨vs, h1, _⟩ := h; exact h1.slice

theorem RScan_loop {M0 : Store} {v : Value} {l : List UInt8} (h : B M0 v l) (hl : l.length ≤ 2 ^ 24) {Q : Value → Store → Prop}
    (hQ : ∀ w M', Up M0 M' → NLs B Ty.sl_uint8 M0 M' w (scanF l) → Q (.tuple #[w, .int .i64 (flen (scanF l) : Nat)]) M') : ∀ (k at_ : Nat) (M : Store) (w : Value) (acc : List (List UInt8)), l.length - at_ < k → at_ ≤ l.length → Up M0 M →
    NLs B Ty.sl_uint8 M0 M w acc → acc ++ scanF (l.drop at_) = scanF l → at_ = flen acc → P_fettleref1_Scan_1 v w (.int .i64 (at_ : Int)) M Q := by
  intro k
  induction k with
  | zero => intro at_ M w acc hk; omega
  | succ k ih =>
    intro at_ M w acc hk hat hu hw hacc hfl
    apply T_fettleref1_Scan_1
    unfold S_fettleref1_Scan_1
    refine (frame_ok (Sl.up h hu) hl hat).mono fun r M1 ⟨hu1, h1⟩ => ?_
    cases ho : oneF (l.drop at_) with
    | none =>
      rw [ho] at h1
      rw [scanF_eq, ho, List.append_nil] at hacc
      obtain ⟨a, c, rfl⟩ := ls_nts hw.ls
      have hq := hQ _ _ (hu.trans hu1) (by rw [← hacc]; exact NLs.up By.up' hw hu1)
      rw [← hacc, ← hfl] at hq
      rw [h1]
      simp only [e_tup]
      exact ⟨rfl, hq⟩
    | some x =>
      rw [ho] at h1
      obtain ⟨u, h1, hx, hnt⟩ := h1
      have hlen := oneF_len ho
      have hdl : (l.drop at_).length = l.length - at_ := List.length_drop
      obtain ⟨a, c, rfl⟩ := hx.slice
      rw [h1]
      simp only [e_tup]
      have t0 : (#[Value.slice a x.length c, Value.int .i64 ((at_ + (x.length + 10) : Nat) : Int), Value.bool true])[0]? = some (.slice a x.length c) := rfl
      have t1 : (#[Value.slice a x.length c, Value.int .i64 ((at_ + (x.length + 10) : Nat) : Int), Value.bool true])[1]? = some (.int .i64 ((at_ + (x.length + 10) : Nat) : Int)) := rfl
      have t2 : (#[Value.slice a x.length c, Value.int .i64 ((at_ + (x.length + 10) : Nat) : Int), Value.bool true])[2]? = some (.bool true) := rfl
      simp only [t0, t1, t2, ev, Bool.not_true, e_lit1s]
      have hcnt := scanF_count l
      have hac : acc.length ≤ (scanF l).length := by rw [← hacc]; simp
      obtain ⟨w', M2, e2, hu2, hw2, _⟩ := NLs.app1 (By.keep' ne_bb) (hu.trans hu1) (NLs.up By.up' hw hu1) hx (by omega)
      rw [e2, OP2_some]
      refine ih (at_ + (x.length + 10)) M2 w' (acc ++ [x]) (by omega) (by omega) hu2 hw2 ?_ ?_
      · rw [← hacc, scanF_eq (l.drop at_), ho]; simp only [List.drop_drop]; rw [List.append_assoc]; rfl
      · rw [flen_append, ← hfl]; simp [flen]

theorem RScan_ok {M : Store} {v : Value} {l : List UInt8} (h : B M v l) (hl : l.length ≤ 2 ^ 24) : R F.fettleref1_Scan #[v] M fun r M' => Up M M' ∧ ∃ w, r = .tuple #[w, .int .i64 (flen (scanF l) : Nat)] ∧ NLs B Ty.sl_uint8 M M' w (scanF l) := by
  refine R.cps fun Q hQ => ?_
  apply T_fettleref1_Scan
  unfold S_fettleref1_Scan
  exact RScan_loop h hl (fun w M' hu hw => hQ _ _ ⟨hu, w, rfl, hw⟩) (l.length + 1) 0 M _ [] (by omega) (by omega) (Ch.refl _ _) NLs.nil rfl rfl

end Go.G
