/- Ends of readers. -/
import Derived.Test.YtpacolplhcfamaaPGB
import Derived.Test.YtpacolplhcfamaaPC9
namespace Go.G
open Go.Ab Go.Proofs Go.RowKit
set_option linter.unusedVariables false
set_option linter.unusedSimpArgs false

theorem End_ok {M : Store} {b : Nat} {l : List UInt8} {bad : Bool} (h : Rd Ty.code_Reader M b l bad) : R F.code_Reader_End #[.pointer (some ⟨b, 0, none⟩)] M fun v M' => M' = M ∧ v = .bool (!bad && l.isEmpty) := by
  obtain ⟨w, hb, hw⟩ := h
  refine R.cps fun Q hQ => ?_
  apply T_code_Reader_End
  unfold S_code_Reader_End
  have e0 := hb.ld (o := 0) rfl
  have e1 := hb.ld (o := 1) rfl
  simp only [ev, Nat.zero_add, e1, e0]
  cases bad with
  | true => exact ⟨rfl, hQ _ _ ⟨rfl, rfl⟩⟩
  | false =>
    simp only [Bool.not_false, ev, hw.lenV]
    refine ⟨rfl, hQ _ _ ⟨rfl, ?_⟩⟩
    cases l with
    | nil => rfl
    | cons x l => simp; omega

theorem rEnd_ok {M : Store} {b : Nat} {l : List UInt8} {bad : Bool} (h : Rd Ty.fettleref1_Reader M b l bad) : R F.fettleref1_Reader_End #[.pointer (some ⟨b, 0, none⟩)] M fun v M' => M' = M ∧ v = .bool (!bad && l.isEmpty) := by
  obtain ⟨w, hb, hw⟩ := h
  refine R.cps fun Q hQ => ?_
  apply T_fettleref1_Reader_End
  unfold S_fettleref1_Reader_End
  have e0 := hb.ld (o := 0) rfl
  have e1 := hb.ld (o := 1) rfl
  simp only [ev, Nat.zero_add, e1, e0]
  cases bad with
  | true => exact ⟨rfl, hQ _ _ ⟨rfl, rfl⟩⟩
  | false =>
    simp only [Bool.not_false, ev, hw.lenV]
    refine ⟨rfl, hQ _ _ ⟨rfl, ?_⟩⟩
    cases l with
    | nil => rfl
    | cons x l => simp; omega

theorem tup2_0 (a b : Value) : tup (.tuple #[a, b]) 0 = some a := rfl
theorem tup2_1 (a b : Value) : tup (.tuple #[a, b]) 1 = some b := rfl
theorem tup3_0 (a b c : Value) : tup (.tuple #[a, b, c]) 0 = some a := rfl
theorem tup3_1 (a b c : Value) : tup (.tuple #[a, b, c]) 1 = some b := rfl
theorem tup3_2 (a b c : Value) : tup (.tuple #[a, b, c]) 2 = some c := rfl

theorem nts3 {s e s' e' M v n cs M' v' n' cs'} (h : Sl s e M v n cs) (h' : Sl s' e' M' v' n' cs') {b : Bool} : NTs [v, v', .bool b] := by
  obtain ⟨a, c, rfl⟩ := h.slice; obtain ⟨a', c', rfl⟩ := h'.slice; rfl

/-- The one frame that bytes are. -/
def wholeF (l : List UInt8) : Option (List UInt8) := match scanF l with
  | [x] => if x.length + 10 = l.length then some x else none
  | _ => none
/-- What an artifact holds. -/
def openF (l : List UInt8) : Option (List UInt8 × List UInt8) :=
  (wholeF l).bind fun x => (rdBytes 4000 x false).bind fun p => (rdBytes 256 p.2 false).bind fun q => if q.2.isEmpty then some (p.1, q.1) else none
def makeF (x y : List UInt8) : List UInt8 := frm (be 6 x.length ++ x ++ be 6 y.length ++ y)
theorem makeF_length (x y : List UInt8) : (makeF x y).length = x.length + y.length + 22 := by simp [makeF, frm_length, be_length]; omega

theorem RMake_ok {M : Store} {v w : Value} {x y : List UInt8} (h : B M v x) (hy : B M w y) (hl : x.length ≤ 2 ^ 22) (hk : y.length ≤ 2 ^ 22) :
    R F.fettleref10_Make #[v, w] M fun v' M' => Up M M' ∧ N M M' v' (makeF x y) := by
  refine R.cps fun Q hQ => ?_
  apply T_fettleref10_Make
  unfold S_fettleref10_Make
  refine (RBytes_ok (l := []) (Sl.nil _ _ _) h (by simp) (by omega)).mono fun v1 M1 ⟨hu1, h1⟩ => ?_
  rw [List.nil_append] at h1
  refine (RBytes_ok h1.by (Sl.up hy hu1) (by simp [be_length]; omega) (by omega)).mono fun v2 M2 ⟨hu2, h2⟩ => ?_
  refine (RPut_ok (l := []) (Sl.nil _ _ _) h2.by (by simp) (by simp [be_length]; omega)).mono fun v3 M3 ⟨hu3, h3⟩ => ?_
  rw [List.nil_append] at h3
  exact ⟨nts_of h3.sl, hQ _ _ ⟨(hu1.trans hu2).trans hu3, Nw.base h3 (hu1.trans hu2).n⟩⟩

theorem wholeF_len {l x : List UInt8} (h : wholeF l = some x) : x.length + 10 = l.length := by
  unfold wholeF at h
  split at h
  · split at h
    · injection h with h; subst h; assumption
    · cases h
  · cases h

/-- What an opening answers. -/
def Opn (M0 M : Store) (r : Value) (o : Option (List UInt8 × List UInt8)) : Prop :=
  ∃ u v M1, r = .tuple #[u, v, .bool o.isSome] ∧ N M0 M1 u (o.getD ([], [])).1 ∧ N M0 M u (o.getD ([], [])).1 ∧ N M1 M v (o.getD ([], [])).2 ∧ M0.n ≤ M1.n ∧ M1.n ≤ M.n
theorem Opn.none (M0 M : Store) (h : M0.n ≤ M.n) : Opn M0 M (.tuple #[.slice .none 0 0, .slice .none 0 0, .bool false]) .none := ⟨_, _, M0, rfl, Nw.nil _ _ _ _, Nw.nil _ _ _ _, Nw.nil _ _ _ _, Nat.le_refl _, h⟩

theorem Open_ok {M : Store} {v : Value} {l : List UInt8} (h : B M v l) (hl : l.length ≤ 2 ^ 24) : R F.arti_Open #[v] M fun r M' => Up M M' ∧ Opn M M' r (openF l) := by
  refine R.cps fun Q hQ => ?_
  apply T_arti_Open
  unfold S_arti_Open
  have no : ∀ M', Up M M' → openF l = none → NTs [.slice none 0 0, .slice none 0 0, .bool false] ∧ Q (.tuple #[.slice none 0 0, .slice none 0 0, .bool false]) M' := by
    intro M' hM hn
    refine ⟨rfl, hQ _ _ ⟨hM, ?_⟩⟩
    rw [hn]; exact Opn.none _ _ hM.n
  refine (Scan_ok h hl).mono fun r M1 ⟨hu1, w, hr, hw⟩ => ?_
  subst hr
  rw [tup2_0, OP_some, tup2_1, OP_some, hw.ls.lenV, OP_some, e_neq, BR_dec]
  split
  · rename_i hne
    refine no _ hu1 ?_
    have : wholeF l = none := by
      unfold wholeF
      split
      · rename_i h1; rw [h1] at hne; exact absurd rfl hne
      · rfl
    rw [openF, this]; rfl
  rename_i hone
  have hone : (scanF l).length = 1 := by omega
  obtain ⟨x, hx⟩ := List.length_eq_one_iff.1 hone
  have hxl := scanF_flen l
  rw [hx] at hw hxl ⊢
  have hf : flen [x] = x.length + 10 := by simp [flen]
  rw [hf] at hxl ⊢
  rw [h.lenV, OP_some, e_neq, BR_dec]
  split
  · rename_i hne
    refine no _ hu1 ?_
    have : wholeF l = none := by
      unfold wholeF
      rw [hx]; simp only
      rw [if_neg (by omega)]
    rw [openF, this]; rfl
  rename_i hle
  have hwh : wholeF l = some x := by
    unfold wholeF
    rw [hx]; simp only
    rw [if_pos (by omega)]
  have ho : openF l = (rdBytes 4000 x false).bind fun p => (rdBytes 256 p.2 false).bind fun q => if q.2.isEmpty then some (p.1, q.1) else none := by
    rw [openF, hwh]; rfl
  obtain ⟨p, q, e1, e2, hq⟩ := hw.ls.at (i := 0) (by simp) .i64
  have e1 : ixA 1 w (.int .i64 0) = some p := e1
  have hq : B M1 q x := hq
  rw [e1, OP_some, e2, OP_some]
  refine (Read_ok hq (by omega)).mono fun r2 M2 ⟨hu2, b, hr2, hbn, hR⟩ => ?_
  subst hr2
  have hMb : M.n ≤ b := Nat.le_trans hu1.n hbn
  refine (rBytesN_ok (top := 4000) hR (by omega) (by omega)).mono fun v3 M3 ⟨hc3, h3⟩ => ?_
  have u2 : Up M M2 := hu1.trans hu2
  have u3 : Up M M3 := u2.ch hc3 fun c hc => by simp at hc; omega
  have bad : ∀ (l' : List UInt8), l'.length ≤ 2 ^ 24 → Rd Ty.code_Reader M3 b l' true → openF l = none →
      R F.code_Reader_Bytes #[.pointer (some ⟨b, 0, none⟩), .int .i64 256] M3 fun t29 M4 => R F.code_Reader_End #[.pointer (some ⟨b, 0, none⟩)] M4 fun t31 M5 => OP (aun .not t31) fun t32 => BR t32
        (NTs [.slice none 0 0, .slice none 0 0, .bool false] ∧ Q (.tuple #[.slice none 0 0, .slice none 0 0, .bool false]) M5) (NTs [v3, t29, .bool true] ∧ Q (.tuple #[v3, t29, .bool true]) M5) := by
    intro l' hl' hR3 hn
    refine (rBytesN_ok (top := 256) hR3 (by omega) hl').mono fun v4 M4 ⟨hc4, h4⟩ => ?_
    have hrd : rdBytes 256 l' true = none := by simp [rdBytes, rdNum]
    rw [hrd] at h4
    refine (End_ok h4.2).mono fun v5 M5 ⟨h5, h6⟩ => ?_
    subst h5; subst h6
    rw [e_not, BR_bool, if_pos (by simp)]
    exact no _ (u3.ch hc4 fun c hc => by simp at hc; omega) hn
  cases h4 : rdBytes 4000 x false with
  | none =>
    rw [h4] at h3 ho
    exact bad [] (by simp) h3.2 ho
  | some pr =>
    obtain ⟨k, rest⟩ := pr
    rw [h4] at h3 ho
    simp only [Option.bind_some] at ho
    obtain ⟨hk, hR3⟩ := h3
    have hlen := rdBytes_len h4
    refine (rBytesN_ok (top := 256) hR3 (by omega) (by omega)).mono fun v4 M4 ⟨hc4, h5⟩ => ?_
    have u4 : Up M M4 := u3.ch hc4 fun c hc => by simp at hc; omega
    have hk4 : N M2 M4 v3 k := by
      obtain ⟨w', hob, _⟩ := hR3
      exact Nw.keep hk ne_rd (hc4.keepT hob)
    cases h6 : rdBytes 256 rest false with
    | none =>
      rw [h6] at h5 ho
      refine (End_ok h5.2).mono fun v5 M5 ⟨h7, h8⟩ => ?_
      subst h7; subst h8
      rw [e_not, BR_bool, if_pos (by simp)]
      exact no _ u4 ho
    | some pr =>
      obtain ⟨y, rest'⟩ := pr
      rw [h6] at h5 ho
      simp only [Option.bind_some] at ho
      refine (End_ok h5.2).mono fun v5 M5 ⟨h7, h8⟩ => ?_
      subst h7; subst h8
      rw [e_not, BR_bool]
      split
      · rename_i hb
        refine no _ u4 ?_
        rw [ho, if_neg (by simpa using hb)]
      · rename_i hb
        have ho' : openF l = some (k, y) := by rw [ho, if_pos (by simpa using hb)]
        refine ⟨nts3 hk.sl h5.1.sl, hQ _ _ ⟨u4, ?_⟩⟩
        rw [ho']
        exact ⟨v3, v4, M3, rfl, Nw.base hk u2.n, Nw.base hk4 u2.n, h5.1, u3.n, hc4.n⟩

theorem whole_ok {M : Store} {v : Value} {l : List UInt8} (h : B M v l) (hl : l.length ≤ 2 ^ 24) : R F.fettleref10_whole #[v] M fun r M' => Up M M' ∧ ∃ a n c, r = .tuple #[.slice a n c, .bool (wholeF l).isSome] ∧ B M' (.slice a n c) ((wholeF l).getD []) := by
  refine R.cps fun Q hQ => ?_
  apply T_fettleref10_whole
  unfold S_fettleref10_whole
  have no : ∀ M', Up M M' → wholeF l = none → NTs [.slice none 0 0, .bool false] ∧ Q (.tuple #[.slice none 0 0, .bool false]) M' := by
    intro M' hM hn
    refine ⟨rfl, hQ _ _ ⟨hM, none, 0, 0, ?_⟩⟩
    rw [hn]; exact ⟨rfl, Sl.nil _ _ _⟩
  refine (RScan_ok h hl).mono fun r M1 ⟨hu1, w, hr, hw⟩ => ?_
  subst hr
  rw [tup2_0, OP_some, tup2_1, OP_some, hw.ls.lenV, OP_some, e_neq, BR_dec]
  split
  · rename_i hne
    refine no _ hu1 ?_
    unfold wholeF
    split
    · rename_i h1; rw [h1] at hne; exact absurd rfl hne
    · rfl
  rename_i hone
  have hone : (scanF l).length = 1 := by omega
  obtain ⟨x, hx⟩ := List.length_eq_one_iff.1 hone
  have hxl := scanF_flen l
  rw [hx] at hw hxl ⊢
  have hf : flen [x] = x.length + 10 := by simp [flen]
  rw [hf] at hxl ⊢
  rw [h.lenV, OP_some, e_neq, BR_dec]
  split
  · rename_i hne
    refine no _ hu1 ?_
    unfold wholeF
    rw [hx]; simp only
    rw [if_neg (by omega)]
  rename_i hle
  have hwh : wholeF l = some x := by
    unfold wholeF
    rw [hx]; simp only
    rw [if_pos (by omega)]
  obtain ⟨p, q, e1, e2, hq⟩ := hw.ls.at (i := 0) (by simp) .i64
  have e1 : ixA 1 w (.int .i64 0) = some p := e1
  have hq : B M1 q x := hq
  rw [e1, OP_some, e2, OP_some]
  obtain ⟨a, c, rfl⟩ := hq.slice
  refine ⟨rfl, hQ _ _ ⟨hu1, a, x.length, c, ?_⟩⟩
  rw [hwh]
  exact ⟨rfl, hq⟩

/-- What an opening answers, of the document's own. -/
def Opr (M : Store) (r : Value) (o : Option (List UInt8 × List UInt8)) : Prop := ∃ u v, r = .tuple #[u, v, .bool o.isSome] ∧ B M u (o.getD ([], [])).1 ∧ B M v (o.getD ([], [])).2

theorem ROpen_ok {M : Store} {v : Value} {l : List UInt8} (h : B M v l) (hl : l.length ≤ 2 ^ 24) : R F.fettleref10_Open #[v] M fun r M' => Up M M' ∧ Opr M' r (openF l) := by
  refine R.cps fun Q hQ => ?_
  apply T_fettleref10_Open
  unfold S_fettleref10_Open
  have no : ∀ M', Up M M' → openF l = none → NTs [.slice none 0 0, .slice none 0 0, .bool false] ∧ Q (.tuple #[.slice none 0 0, .slice none 0 0, .bool false]) M' := by
    intro M' hM hn
    refine ⟨rfl, hQ _ _ ⟨hM, ?_⟩⟩
    rw [hn]; exact ⟨_, _, rfl, Sl.nil _ _ _, Sl.nil _ _ _⟩
  refine (whole_ok h hl).mono fun r M1 ⟨hu1, a, n, c, hr, hw⟩ => ?_
  subst hr
  have e1 : bldS #[.slice none 0 0, .bool false] [(0, 1), (1, 1)] [(0, .slice a n c)] = some (.agg #[.slice a n c, .bool false]) := by kernel_rfl
  have e2 : boxv (.agg #[.slice a n c, .bool false]) = some [.slice a n c, .bool false] := by kernel_rfl
  rw [tup2_0, OP_some, tup2_1, OP_some, e1, OP_some, e2, OP_some, LT_eq]
  have u1 := Up.push M1 (some (.inl ([.slice a n c, .bool false], Ty.fettleref1_Reader, true)))
  have o1 := Ob.new M1 [.slice a n c, .bool false] Ty.fettleref1_Reader
  generalize M1.push (some (.inl ([.slice a n c, .bool false], Ty.fettleref1_Reader, true))) = M2 at *
  have hx : ((wholeF l).getD []).length ≤ 2 ^ 24 := by
    cases hwl : wholeF l with
    | none => simp
    | some x => have := wholeF_len hwl; simp; omega
  have hR : Rd Ty.fettleref1_Reader M2 M1.n ((wholeF l).getD []) false := ⟨_, o1, Sl.up hw u1⟩
  have hbn := hu1.n
  have u2 : Up M M2 := hu1.trans u1
  have ho : openF l = (wholeF l).bind fun x => (rdBytes 4000 x false).bind fun p => (rdBytes 256 p.2 false).bind fun q => if q.2.isEmpty then some (p.1, q.1) else none := rfl
  refine (rrBytes_ok (top := 4000) hR (by omega) hx).mono fun v3 M3 ⟨hc3, h3⟩ => ?_
  have u3 : Up M M3 := u2.ch hc3 fun c hc => by simp at hc; omega
  have bad : ∀ (l' : List UInt8), l'.length ≤ 2 ^ 24 → Rd Ty.fettleref1_Reader M3 M1.n l' true → openF l = none →
      R F.fettleref1_Reader_Bytes #[.pointer (some ⟨M1.n, 0, none⟩), .int .i64 256] M3 fun t21 M4 => OP (aun .not (.bool (wholeF l).isSome)) fun t23 => BR t23
        (NTs [.slice none 0 0, .slice none 0 0, .bool false] ∧ Q (.tuple #[.slice none 0 0, .slice none 0 0, .bool false]) M4)
        (R F.fettleref1_Reader_End #[.pointer (some ⟨M1.n, 0, none⟩)] M4 fun t31 M5 => OP (aun .not t31) fun t32 => BR t32
        (NTs [.slice none 0 0, .slice none 0 0, .bool false] ∧ Q (.tuple #[.slice none 0 0, .slice none 0 0, .bool false]) M5) (NTs [v3, t21, .bool true] ∧ Q (.tuple #[v3, t21, .bool true]) M5)) := by
    intro l' hl' hR3 hn
    refine (rrBytes_ok (top := 256) hR3 (by omega) hl').mono fun v4 M4 ⟨hc4, h4⟩ => ?_
    have hrd : rdBytes 256 l' true = none := by simp [rdBytes, rdNum]
    rw [hrd] at h4
    obtain ⟨_, r4, _, h4⟩ := h4
    have u4 : Up M M4 := u3.ch hc4 fun c hc => by simp at hc; omega
    rw [e_not, BR_bool]
    split
    · exact no _ u4 hn
    · refine (rEnd_ok h4).mono fun v5 M5 ⟨h5, h6⟩ => ?_
      subst h5; subst h6
      rw [e_not, BR_bool, if_pos (by simp)]
      exact no _ u4 hn
  cases hwl : wholeF l with
  | none =>
    rw [hwl] at h3 ho bad
    have : openF l = none := ho
    have hrd : rdBytes 4000 ((none : Option (List UInt8)).getD []) false = none := by simp [rdBytes, rdNum]
    rw [hrd] at h3
    obtain ⟨_, r4, hr4, h3⟩ := h3
    exact bad r4 (by simp at hr4; simp [hr4]) h3 this
  | some x =>
    rw [hwl] at h3 ho bad hx
    simp only [Option.bind_some] at ho
    simp only [Option.getD_some] at h3 hx
    cases h4 : rdBytes 4000 x false with
    | none =>
      rw [h4] at h3 ho
      obtain ⟨_, r4, hr4, h3⟩ := h3
      exact bad r4 (by omega) h3 ho
    | some pr =>
      obtain ⟨k, rest⟩ := pr
      rw [h4] at h3 ho
      simp only [Option.bind_some] at ho
      obtain ⟨hk, hR3⟩ := h3
      have hlen := rdBytes_len h4
      refine (rrBytes_ok (top := 256) hR3 (by omega) (by omega)).mono fun v4 M4 ⟨hc4, h5⟩ => ?_
      have u4 : Up M M4 := u3.ch hc4 fun c hc => by simp at hc; omega
      have hk4 : B M4 v3 k := by
        obtain ⟨w', hob, _⟩ := hR3
        exact Sl.keep hk ne_rrd (hc4.keepT hob)
      rw [e_not, BR_bool, if_neg (by simp)]
      cases h6 : rdBytes 256 rest false with
      | none =>
        rw [h6] at h5 ho
        obtain ⟨_, r4, _, h5⟩ := h5
        refine (rEnd_ok h5).mono fun v5 M5 ⟨h7, h8⟩ => ?_
        subst h7; subst h8
        rw [e_not, BR_bool, if_pos (by simp)]
        exact no _ u4 ho
      | some pr =>
        obtain ⟨y, rest'⟩ := pr
        rw [h6] at h5 ho
        simp only [Option.bind_some] at ho
        refine (rEnd_ok h5.2).mono fun v5 M5 ⟨h7, h8⟩ => ?_
        subst h7; subst h8
        rw [e_not, BR_bool]
        split
        · rename_i hb
          refine no _ u4 ?_
          rw [ho, if_neg (by simpa using hb)]
        · rename_i hb
          have ho' : openF l = some (k, y) := by rw [ho, if_pos (by simpa using hb)]
          refine ⟨nts3 hk h5.1, hQ _ _ ⟨u4, ?_⟩⟩
          rw [ho']
          exact ⟨v3, v4, rfl, hk4, h5.1⟩

end Go.G
