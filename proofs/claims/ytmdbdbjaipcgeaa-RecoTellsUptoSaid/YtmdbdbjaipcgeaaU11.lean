/- Ends of readers. What is made is opened; what is turned at one place is not. Layer 11: what the document fixes; artifacts told, turned, and owned; for inputs of bulk at most 1048576. Layer 11: what is opened is one's own; for inputs of bulk at most 1048576. -/
import Derived.Test.YtmdbdbjaipcgeaaGB
import Derived.Test.YtmdbdbjaipcgeaaU3
namespace Go.G
open Go.Ab Go.Proofs Go.RowKit
set_option linter.unusedVariables false
set_option linter.unusedSimpArgs false

theorem End_ok {M : Store} {b : Nat} {l : List UInt8} {bad : Bool} (h : Rd Ty.code_Reader M b l bad) : R F.code_Reader_End #[.pointer (some ⟨b, 0, none⟩)] M fun v M' => M' = M ∧ v = .bool (!bad && l.isEmpty) := by
  obtain ⟨w, hb, hw⟩ := h
  refine R.cps fun Q hQ => ?_
  apply T_code_Reader_End
  unfold S_code_Reader_End
  have e0 := hb.ld (o := 0) rfl
  have e1 := hb.ld (o := 1) rfl
  simp only [ev, Nat.zero_add, e1, e0]
  cases bad with
  | true => exact ⟨rfl, hQ _ _ ⟨rfl, rfl⟩⟩
  | false =>
    simp only [Bool.not_false, ev, hw.lenV]
    refine ⟨rfl, hQ _ _ ⟨rfl, ?_⟩⟩
    cases l with
    | nil => rfl
    | cons x l => simp; omega

theorem rEnd_ok {M : Store} {b : Nat} {l : List UInt8} {bad : Bool} (h : Rd Ty.fettleref1_Reader M b l bad) : R F.fettleref1_Reader_End #[.pointer (some ⟨b, 0, none⟩)] M fun v M' => M' = M ∧ v = .bool (!bad && l.isEmpty) := by
  obtain ⟨w, hb, hw⟩ := h
  refine R.cps fun Q hQ => ?_
  apply T_fettleref1_Reader_End
  unfold S_fettleref1_Reader_End
  have e0 := hb.ld (o := 0) rfl
  have e1 := hb.ld (o := 1) rfl
  simp only [ev, Nat.zero_add, e1, e0]
  cases bad with
  | true => exact ⟨rfl, hQ _ _ ⟨rfl, rfl⟩⟩
  | false =>
    simp only [Bool.not_false, ev, hw.lenV]
    refine ⟨rfl, hQ _ _ ⟨rfl, ?_⟩⟩
    cases l with
    | nil => rfl
    | cons x l => simp; omega

theorem tup2_0 (a b : Value) : tup (.tuple #[a, b]) 0 = some a := rfl
theorem tup2_1 (a b : Value) : tup (.tuple #[a, b]) 1 = some b := rfl
theorem tup3_0 (a b c : Value) : tup (.tuple #[a, b, c]) 0 = some a := rfl
theorem tup3_1 (a b c : Value) : tup (.tuple #[a, b, c]) 1 = some b := rfl
theorem tup3_2 (a b c : Value) : tup (.tuple #[a, b, c]) 2 = some c := rfl

theorem nts3 {s e s' e' M v n cs M' v' n' cs'} (h : Sl s e M v n cs) (h' : Sl s' e' M' v' n' cs') {b : Bool} : NTs [v, v', .bool b] := by
  obtain ⟨a, c, rfl⟩ := h.slice; obtain ⟨a', c', rfl⟩ := h'.slice; rfl

/-- The one frame that bytes are. -/
def wholeF (l : List UInt8) : Option (List UInt8) := match scanF l with
  | [x] => if x.length + 10 = l.length then some x else none
  | _ => none
/-- What an artifact holds. -/
def openF (l : List UInt8) : Option (List UInt8 × List UInt8) :=
  (wholeF l).bind fun x => (rdBytes 4000 x false).bind fun p => (rdBytes 256 p.2 false).bind fun q => if q.2.isEmpty then some (p.1, q.1) else none
def makeF (x y : List UInt8) : List UInt8 := frm (be 6 x.length ++ x ++ be 6 y.length ++ y)
theorem makeF_length (x y : List UInt8) : (makeF x y).length = x.length + y.length + 22 := by simp [makeF, frm_length, be_length]; omega

theorem Make_ok {M : Store} {v w : Value} {x y : List UInt8} (h : B M v x) (hy : B M w y) (hl : x.length ≤ 2 ^ 22) (hk : y.length ≤ 2 ^ 22) :
    R F.arti_Make #[v, w] M fun v' M' => Up M M' ∧ N M M' v' (makeF x y) := by
  refine R.cps fun Q hQ => ?_
  apply T_arti_Make
  unfold S_arti_Make
  refine (Bytes_ok (l := []) (Sl.nil _ _ _) h (by simp) (by omega)).mono fun v1 M1 ⟨hu1, h1⟩ => ?_
  rw [List.nil_append] at h1
  refine (Bytes_ok h1.by (Sl.up hy hu1) (by simp [be_length]; omega) (by omega)).mono fun v2 M2 ⟨hu2, h2⟩ => ?_
  refine (Put_ok (l := []) (Sl.nil _ _ _) h2.by (by simp) (by simp [be_length]; omega)).mono fun v3 M3 ⟨hu3, h3⟩ => ?_
  rw [List.nil_append] at h3
  exact ⟨nts_of h3.sl, hQ _ _ ⟨(hu1.trans hu2).trans hu3, Nw.base h3 (hu1.trans hu2).n⟩⟩
theorem RMake_ok {M : Store} {v w : Value} {x y : List UInt8} (h : B M v x) (hy : B M w y) (hl : x.length ≤ 2 ^ 22) (hk : y.length ≤ 2 ^ 22) :
    R F.fettleref10_Make #[v, w] M fun v' M' => Up M M' ∧ N M M' v' (makeF x y) := by
  refine R.cps fun Q hQ => ?_
  apply T_fettleref10_Make
  unfold S_fettleref10_Make
  refine (RBytes_ok (l := []) (Sl.nil _ _ _) h (by simp) (by omega)).mono fun v1 M1 ⟨hu1, h1⟩ => ?_
  rw [List.nil_append] at h1
  refine (RBytes_ok h1.by (Sl.up hy hu1) (by simp [be_length]; omega) (by omega)).mono fun v2 M2 ⟨hu2, h2⟩ => ?_
  refine (RPut_ok (l := []) (Sl.nil _ _ _) h2.by (by simp) (by simp [be_length]; omega)).mono fun v3 M3 ⟨hu3, h3⟩ => ?_
  rw [List.nil_append] at h3
  exact ⟨nts_of h3.sl, hQ _ _ ⟨(hu1.trans hu2).trans hu3, Nw.base h3 (hu1.trans hu2).n⟩⟩

theorem wholeF_len {l x : List UInt8} (h : wholeF l = some x) : x.length + 10 = l.length := by
  unfold wholeF at h
  split at h
  · split at h
    · injection h with h; subst h; assumption
    · cases h
  · cases h

/-- What an opening answers. -/
def Opn (M0 M : Store) (r : Value) (o : Option (List UInt8 × List UInt8)) : Prop :=
  ∃ u v M1, r = .tuple #[u, v, .bool o.isSome] ∧ N M0 M1 u (o.getD ([], [])).1 ∧ N M0 M u (o.getD ([], [])).1 ∧ N M1 M v (o.getD ([], [])).2 ∧ M0.n ≤ M1.n ∧ M1.n ≤ M.n
theorem Opn.none (M0 M : Store) (h : M0.n ≤ M.n) : Opn M0 M (.tuple #[.slice .none 0 0, .slice .none 0 0, .bool false]) .none := ⟨_, _, M0, rfl, Nw.nil _ _ _ _, Nw.nil _ _ _ _, Nw.nil _ _ _ _, Nat.le_refl _, h⟩

theorem Open_ok {M : Store} {v : Value} {l : List UInt8} (h : B M v l) (hl : l.length ≤ 2 ^ 24) : R F.arti_Open #[v] M fun r M' => Up M M' ∧ Opn M M' r (openF l) := by
  refine R.cps fun Q hQ => ?_
  apply T_arti_Open
  unfold S_arti_Open
  have no : ∀ M', Up M M' → openF l = none → NTs [.slice none 0 0, .slice none 0 0, .bool false] ∧ Q (.tuple #[.slice none 0 0, .slice none 0 0, .bool false]) M' := by
    intro M' hM hn
    refine ⟨rfl, hQ _ _ ⟨hM, ?_⟩⟩
    rw [hn]; exact Opn.none _ _ hM.n
  refine (Scan_ok h hl).mono fun r M1 ⟨hu1, w, hr, hw⟩ => ?_
  subst hr
  rw [tup2_0, OP_some, tup2_1, OP_some, hw.ls.lenV, OP_some, e_neq, BR_dec]
  split
  · rename_i hne
    refine no _ hu1 ?_
    have : wholeF l = none := by
      unfold wholeF
      split
      · rename_i h1; rw [h1] at hne; exact absurd rfl hne
      · rfl
    rw [openF, this]; rfl
  rename_i hone
  have hone : (scanF l).length = 1 := by omega
  obtain ⟨x, hx⟩ := List.length_eq_one_iff.1 hone
  have hxl := scanF_flen l
  rw [hx] at hw hxl ⊢
  have hf : flen [x] = x.length + 10 := by simp [flen]
  rw [hf] at hxl ⊢
  rw [h.lenV, OP_some, e_neq, BR_dec]
  split
  · rename_i hne
    refine no _ hu1 ?_
    have : wholeF l = none := by
      unfold wholeF
      rw [hx]; simp only
      rw [if_neg (by omega)]
    rw [openF, this]; rfl
  rename_i hle
  have hwh : wholeF l = some x := by
    unfold wholeF
    rw [hx]; simp only
    rw [if_pos (by omega)]
  have ho : openF l = (rdBytes 4000 x false).bind fun p => (rdBytes 256 p.2 false).bind fun q => if q.2.isEmpty then some (p.1, q.1) else none := by
    rw [openF, hwh]; rfl
  obtain ⟨p, q, e1, e2, hq⟩ := hw.ls.at (i := 0) (by simp) .i64
  have e1 : ixA 1 w (.int .i64 0) = some p := e1
  have hq : B M1 q x := hq
  rw [e1, OP_some, e2, OP_some]
  refine (Read_ok hq (by omega)).mono fun r2 M2 ⟨hu2, b, hr2, hbn, hR⟩ => ?_
  subst hr2
  have hMb : M.n ≤ b := Nat.le_trans hu1.n hbn
  refine (rBytesN_ok (top := 4000) hR (by omega) (by omega)).mono fun v3 M3 ⟨hc3, h3⟩ => ?_
  have u2 : Up M M2 := hu1.trans hu2
  have u3 : Up M M3 := u2.ch hc3 fun c hc => by simp at hc; omega
  have bad : ∀ (l' : List UInt8), l'.length ≤ 2 ^ 24 → Rd Ty.code_Reader M3 b l' true → openF l = none →
      R F.code_Reader_Bytes #[.pointer (some ⟨b, 0, none⟩), .int .i64 256] M3 fun t29 M4 => R F.code_Reader_End #[.pointer (some ⟨b, 0, none⟩)] M4 fun t31 M5 => OP (aun .not t31) fun t32 => BR t32
        (NTs [.slice none 0 0, .slice none 0 0, .bool false] ∧ Q (.tuple #[.slice none 0 0, .slice none 0 0, .bool false]) M5) (NTs [v3, t29, .bool true] ∧ Q (.tuple #[v3, t29, .bool true]) M5) := by
    intro l' hl' hR3 hn
    refine (rBytesN_ok (top := 256) hR3 (by omega) hl').mono fun v4 M4 ⟨hc4, h4⟩ => ?_
    have hrd : rdBytes 256 l' true = none := by simp [rdBytes, rdNum]
    rw [hrd] at h4
    refine (End_ok h4.2).mono fun v5 M5 ⟨h5, h6⟩ => ?_
    subst h5; subst h6
    rw [e_not, BR_bool, if_pos (by simp)]
    exact no _ (u3.ch hc4 fun c hc => by simp at hc; omega) hn
  cases h4 : rdBytes 4000 x false with
  | none =>
    rw [h4] at h3 ho
    exact bad [] (by simp) h3.2 ho
  | some pr =>
    obtain ⟨k, rest⟩ := pr
    rw [h4] at h3 ho
    simp only [Option.bind_some] at ho
    obtain ⟨hk, hR3⟩ := h3
    have hlen := rdBytes_len h4
    refine (rBytesN_ok (top := 256) hR3 (by omega) (by omega)).mono fun v4 M4 ⟨hc4, h5⟩ => ?_
    have u4 : Up M M4 := u3.ch hc4 fun c hc => by simp at hc; omega
    have hk4 : N M2 M4 v3 k := by
      obtain ⟨w', hob, _⟩ := hR3
      exact Nw.keep hk ne_rd (hc4.keepT hob)
    cases h6 : rdBytes 256 rest false with
    | none =>
      rw [h6] at h5 ho
      refine (End_ok h5.2).mono fun v5 M5 ⟨h7, h8⟩ => ?_
      subst h7; subst h8
      rw [e_not, BR_bool, if_pos (by simp)]
      exact no _ u4 ho
    | some pr =>
      obtain ⟨y, rest'⟩ := pr
      rw [h6] at h5 ho
      simp only [Option.bind_some] at ho
      refine (End_ok h5.2).mono fun v5 M5 ⟨h7, h8⟩ => ?_
      subst h7; subst h8
      rw [e_not, BR_bool]
      split
      · rename_i hb
        refine no _ u4 ?_
        rw [ho, if_neg (by simpa using hb)]
      · rename_i hb
        have ho' : openF l = some (k, y) := by rw [ho, if_pos (by simpa using hb)]
        refine ⟨nts3 hk.sl h5.1.sl, hQ _ _ ⟨u4, ?_⟩⟩
        rw [ho']
        exact ⟨v3, v4, M3, rfl, Nw.base hk u2.n, Nw.base hk4 u2.n, h5.1, u3.n, hc4.n⟩

theorem whole_ok {M : Store} {v : Value} {l : List UInt8} (h : B M v l) (hl : l.length ≤ 2 ^ 24) : R F.fettleref10_whole #[v] M fun r M' => Up M M' ∧ ∃ a n c, r = .tuple #[.slice a n c, .bool (wholeF l).isSome] ∧ B M' (.slice a n c) ((wholeF l).getD []) := by
  refine R.cps fun Q hQ => ?_
  apply T_fettleref10_whole
  unfold S_fettleref10_whole
  have no : ∀ M', Up M M' → wholeF l = none → NTs [.slice none 0 0, .bool false] ∧ Q (.tuple #[.slice none 0 0, .bool false]) M' := by
    intro M' hM hn
    refine ⟨rfl, hQ _ _ ⟨hM, none, 0, 0, ?_⟩⟩
    rw [hn]; exact ⟨rfl, Sl.nil _ _ _⟩
  refine (RScan_ok h hl).mono fun r M1 ⟨hu1, w, hr, hw⟩ => ?_
  subst hr
  rw [tup2_0, OP_some, tup2_1, OP_some, hw.ls.lenV, OP_some, e_neq, BR_dec]
  split
  · rename_i hne
    refine no _ hu1 ?_
    unfold wholeF
    split
    · rename_i h1; rw [h1] at hne; exact absurd rfl hne
    · rfl
  rename_i hone
  have hone : (scanF l).length = 1 := by omega
  obtain ⟨x, hx⟩ := List.length_eq_one_iff.1 hone
  have hxl := scanF_flen l
  rw [hx] at hw hxl ⊢
  have hf : flen [x] = x.length + 10 := by simp [flen]
  rw [hf] at hxl ⊢
  rw [h.lenV, OP_some, e_neq, BR_dec]
  split
  · rename_i hne
    refine no _ hu1 ?_
    unfold wholeF
    rw [hx]; simp only
    rw [if_neg (by omega)]
  rename_i hle
  have hwh : wholeF l = some x := by
    unfold wholeF
    rw [hx]; simp only
    rw [if_pos (by omega)]
  obtain ⟨p, q, e1, e2, hq⟩ := hw.ls.at (i := 0) (by simp) .i64
  have e1 : ixA 1 w (.int .i64 0) = some p := e1
  have hq : B M1 q x := hq
  rw [e1, OP_some, e2, OP_some]
  obtain ⟨a, c, rfl⟩ := hq.slice
  refine ⟨rfl, hQ _ _ ⟨hu1, a, x.length, c, ?_⟩⟩
  rw [hwh]
  exact ⟨rfl, hq⟩

/-- What an opening answers, of the document's own. -/
def Opr (M : Store) (r : Value) (o : Option (List UInt8 × List UInt8)) : Prop := ∃ u v, r = .tuple #[u, v, .bool o.isSome] ∧ B M u (o.getD ([], [])).1 ∧ B M v (o.getD ([], [])).2

theorem ROpen_ok {M : Store} {v : Value} {l : List UInt8} (h : B M v l) (hl : l.length ≤ 2 ^ 24) : R F.fettleref10_Open #[v] M fun r M' => Up M M' ∧ Opr M' r (openF l) := by
  refine R.cps fun Q hQ => ?_
  apply T_fettleref10_Open
  unfold S_fettleref10_Open
  have no : ∀ M', Up M M' → openF l = none → NTs [.slice none 0 0, .slice none 0 0, .bool false] ∧ Q (.tuple #[.slice none 0 0, .slice none 0 0, .bool false]) M' := by
    intro M' hM hn
    refine ⟨rfl, hQ _ _ ⟨hM, ?_⟩⟩
    rw [hn]; exact ⟨_, _, rfl, Sl.nil _ _ _, Sl.nil _ _ _⟩
  refine (whole_ok h hl).mono fun r M1 ⟨hu1, a, n, c, hr, hw⟩ => ?_
  subst hr
  have e1 : bldS #[.slice none 0 0, .bool false] [(0, 1), (1, 1)] [(0, .slice a n c)] = some (.agg #[.slice a n c, .bool false]) := by kernel_rfl
  have e2 : boxv (.agg #[.slice a n c, .bool false]) = some [.slice a n c, .bool false] := by kernel_rfl
  rw [tup2_0, OP_some, tup2_1, OP_some, e1, OP_some, e2, OP_some, LT_eq]
  have u1 := Up.push M1 (some (.inl ([.slice a n c, .bool false], Ty.fettleref1_Reader, true)))
  have o1 := Ob.new M1 [.slice a n c, .bool false] Ty.fettleref1_Reader
  generalize M1.push (some (.inl ([.slice a n c, .bool false], Ty.fettleref1_Reader, true))) = M2 at *
  have hx : ((wholeF l).getD []).length ≤ 2 ^ 24 := by
    cases hwl : wholeF l with
    | none => simp
    | some x => have := wholeF_len hwl; simp; omega
  have hR : Rd Ty.fettleref1_Reader M2 M1.n ((wholeF l).getD []) false := ⟨_, o1, Sl.up hw u1⟩
  have hbn := hu1.n
  have u2 : Up M M2 := hu1.trans u1
  have ho : openF l = (wholeF l).bind fun x => (rdBytes 4000 x false).bind fun p => (rdBytes 256 p.2 false).bind fun q => if q.2.isEmpty then some (p.1, q.1) else none := rfl
  refine (rrBytes_ok (top := 4000) hR (by omega) hx).mono fun v3 M3 ⟨hc3, h3⟩ => ?_
  have u3 : Up M M3 := u2.ch hc3 fun c hc => by simp at hc; omega
  have bad : ∀ (l' : List UInt8), l'.length ≤ 2 ^ 24 → Rd Ty.fettleref1_Reader M3 M1.n l' true → openF l = none →
      R F.fettleref1_Reader_Bytes #[.pointer (some ⟨M1.n, 0, none⟩), .int .i64 256] M3 fun t21 M4 => OP (aun .not (.bool (wholeF l).isSome)) fun t23 => BR t23
        (NTs [.slice none 0 0, .slice none 0 0, .bool false] ∧ Q (.tuple #[.slice none 0 0, .slice none 0 0, .bool false]) M4)
        (R F.fettleref1_Reader_End #[.pointer (some ⟨M1.n, 0, none⟩)] M4 fun t31 M5 => OP (aun .not t31) fun t32 => BR t32
        (NTs [.slice none 0 0, .slice none 0 0, .bool false] ∧ Q (.tuple #[.slice none 0 0, .slice none 0 0, .bool false]) M5) (NTs [v3, t21, .bool true] ∧ Q (.tuple #[v3, t21, .bool true]) M5)) := by
    intro l' hl' hR3 hn
    refine (rrBytes_ok (top := 256) hR3 (by omega) hl').mono fun v4 M4 ⟨hc4, h4⟩ => ?_
    have hrd : rdBytes 256 l' true = none := by simp [rdBytes, rdNum]
    rw [hrd] at h4
    obtain ⟨_, r4, _, h4⟩ := h4
    have u4 : Up M M4 := u3.ch hc4 fun c hc => by simp at hc; omega
    rw [e_not, BR_bool]
    split
    · exact no _ u4 hn
    · refine (rEnd_ok h4).mono fun v5 M5 ⟨h5, h6⟩ => ?_
      subst h5; subst h6
      rw [e_not, BR_bool, if_pos (by simp)]
      exact no _ u4 hn
  cases hwl : wholeF l with
  | none =>
    rw [hwl] at h3 ho bad
    have : openF l = none := ho
    have hrd : rdBytes 4000 ((none : Option (List UInt8)).getD []) false = none := by simp [rdBytes, rdNum]
    rw [hrd] at h3
    obtain ⟨_, r4, hr4, h3⟩ := h3
    exact bad r4 (by simp at hr4; simp [hr4]) h3 this
  | some x =>
    rw [hwl] at h3 ho bad hx
    simp only [Option.bind_some] at ho
    simp only [Option.getD_some] at h3 hx
    cases h4 : rdBytes 4000 x false with
    | none =>
      rw [h4] at h3 ho
      obtain ⟨_, r4, hr4, h3⟩ := h3
      exact bad r4 (by omega) h3 ho
    | some pr =>
      obtain ⟨k, rest⟩ := pr
      rw [h4] at h3 ho
      simp only [Option.bind_some] at ho
      obtain ⟨hk, hR3⟩ := h3
      have hlen := rdBytes_len h4
      refine (rrBytes_ok (top := 256) hR3 (by omega) (by omega)).mono fun v4 M4 ⟨hc4, h5⟩ => ?_
      have u4 : Up M M4 := u3.ch hc4 fun c hc => by simp at hc; omega
      have hk4 : B M4 v3 k := by
        obtain ⟨w', hob, _⟩ := hR3
        exact Sl.keep hk ne_rrd (hc4.keepT hob)
      rw [e_not, BR_bool, if_neg (by simp)]
      cases h6 : rdBytes 256 rest false with
      | none =>
        rw [h6] at h5 ho
        obtain ⟨_, r4, _, h5⟩ := h5
        refine (rEnd_ok h5).mono fun v5 M5 ⟨h7, h8⟩ => ?_
        subst h7; subst h8
        rw [e_not, BR_bool, if_pos (by simp)]
        exact no _ u4 ho
      | some pr =>
        obtain ⟨y, rest'⟩ := pr
        rw [h6] at h5 ho
        simp only [Option.bind_some] at ho
        refine (rEnd_ok h5.2).mono fun v5 M5 ⟨h7, h8⟩ => ?_
        subst h7; subst h8
        rw [e_not, BR_bool]
        split
        · rename_i hb
          refine no _ u4 ?_
          rw [ho, if_neg (by simpa using hb)]
        · rename_i hb
          have ho' : openF l = some (k, y) := by rw [ho, if_pos (by simpa using hb)]
          refine ⟨nts3 hk h5.1, hQ _ _ ⟨u4, ?_⟩⟩
          rw [ho']
          exact ⟨v3, v4, rfl, hk4, h5.1⟩

end Go.G

namespace Go.G
open Go.Ab Go.Proofs Go.RowKit
set_option linter.unusedVariables false
set_option linter.unusedSimpArgs false
set_option maxRecDepth 100000

theorem numOf_inj {l k : List UInt8} (hl : l.length = k.length) (h : numOf l = numOf k) : l = k := by
  have : ∀ (l k : List UInt8) (n m : Nat), l.length = k.length → l.foldl (fun n c => n * 256 + c.toNat) n = k.foldl (fun n c => n * 256 + c.toNat) m → n = m ∧ l = k := by
    intro l
    induction l with
    | nil => intro k n m hl h; cases k with
      | nil => exact ⟨h, rfl⟩
      | cons => cases hl
    | cons c l ih => intro k n m hl h; cases k with
      | nil => cases hl
      | cons d k =>
        obtain ⟨h1, rfl⟩ := ih k _ _ (by simpa using hl) h
        have h1 : n * 256 + c.toNat = m * 256 + d.toNat := h1
        have h2 := c.toNat_lt
        have h3 := d.toNat_lt
        have : c.toNat = d.toNat := by omega
        exact ⟨by omega, by rw [UInt8.toNat_inj.1 this]⟩
  exact (this l k 0 0 hl h).2

theorem crcBit_top (c : BitVec 32) : (crcBit c).getLsbD 31 = c.getLsbD 0 := by
  have h1 : (c &&& 1#32 = 1#32) ↔ c.getLsbD 0 = true := by
    constructor
    · intro h
      have := congrArg (fun x => BitVec.getLsbD x 0) h
      simpa using this
    · intro h
      apply BitVec.eq_of_getLsbD_eq
      intro i hi
      cases i with
      | zero => simpa using h
      | succ i => simp
  have h2 : (3988292384#32).getLsbD 31 = true := by decide
  unfold crcBit
  split
  · rename_i h
    rw [BitVec.getLsbD_xor, h2, h1.1 h]; simp
  · rename_i h
    have : c.getLsbD 0 = false := by
      cases hc : c.getLsbD 0
      · rfl
      · exact absurd (h1.2 hc) h
    rw [this]; simp
theorem crcBit_low (c : BitVec 32) : crcBit c = (if c.getLsbD 0 = true then (c >>> 1) ^^^ 3988292384#32 else c >>> 1) := by
  have h1 : (c &&& 1#32 = 1#32) ↔ c.getLsbD 0 = true := by
    constructor
    · intro h
      have := congrArg (fun x => BitVec.getLsbD x 0) h
      simpa using this
    · intro h
      apply BitVec.eq_of_getLsbD_eq
      intro i hi
      cases i with
      | zero => simpa using h
      | succ i => simp
  unfold crcBit
  simp only [h1]
theorem crcBit_inj {c d : BitVec 32} (h : crcBit c = crcBit d) : c = d := by
  have h0 : c.getLsbD 0 = d.getLsbD 0 := by rw [← crcBit_top, ← crcBit_top, h]
  rw [crcBit_low, crcBit_low, h0] at h
  have hs : c >>> 1 = d >>> 1 := by
    split at h
    · have := congrArg (fun x => x ^^^ 3988292384#32) h
      simpa [BitVec.xor_assoc] using this
    · exact h
  apply BitVec.eq_of_getLsbD_eq
  intro i hi
  cases i with
  | zero => exact h0
  | succ i =>
    have := congrArg (fun x => BitVec.getLsbD x i) hs
    simpa [Nat.add_comm] using this
theorem crcBits_inj : ∀ (k : Nat) {c d : BitVec 32}, crcBits k c = crcBits k d → c = d
  | 0, _, _, h => h
  | k + 1, _, _, h => crcBit_inj (crcBits_inj k h)
theorem crcByte_inj {c d : BitVec 32} {x y : UInt8} (h : crcByte c x = crcByte d y) : c ^^^ x.toBitVec.setWidth 32 = d ^^^ y.toBitVec.setWidth 32 := crcBits_inj 8 h
theorem xor_cancel {a b c : BitVec 32} (h : a ^^^ c = b ^^^ c) : a = b := by
  have := congrArg (fun x => x ^^^ c) h
  simpa [BitVec.xor_assoc] using this
theorem xor_cancel' {a b c : BitVec 32} (h : c ^^^ a = c ^^^ b) : a = b := by
  rw [BitVec.xor_comm c a, BitVec.xor_comm c b] at h; exact xor_cancel h
theorem crcL_inj {c d : BitVec 32} : ∀ (l : List UInt8), crcL c l = crcL d l → c = d := by
  intro l
  induction l generalizing c d with
  | nil => intro h; exact h
  | cons x l ih => intro h; exact xor_cancel (crcByte_inj (ih h))
theorem crc_one {p q : List UInt8} {x y : UInt8} (h : crc (p ++ x :: q) = crc (p ++ y :: q)) : x = y := by
  have h := xor_cancel h
  simp only [crcL, List.foldl_append, List.foldl_cons] at h
  have h := crcByte_inj (crcL_inj q h)
  have h := xor_cancel' h
  have h2 := congrArg (fun z : BitVec 32 => z.toNat) h
  simp only [BitVec.toNat_setWidth] at h2
  have h3 := x.toNat_lt
  have h4 := y.toNat_lt
  have e1 : x.toBitVec.toNat = x.toNat := rfl
  have e2 : y.toBitVec.toNat = y.toNat := rfl
  apply UInt8.toNat_inj.1
  omega
theorem sum4_inj {c d : BitVec 32} (h : sum4 c = sum4 d) : c = d := by
  simp only [sum4, List.cons.injEq, and_true] at h
  obtain ⟨h1, h2, h3, h4⟩ := h
  have g : ∀ k (a b : BitVec 32), UInt8.ofNat (a >>> k).toNat = UInt8.ofNat (b >>> k).toNat → (a.toNat / 2 ^ k) % 256 = (b.toNat / 2 ^ k) % 256 := by
    intro k a b h
    have := congrArg UInt8.toNat h
    simpa [BitVec.toNat_ushiftRight, Nat.shiftRight_eq_div_pow] using this
  have g0 := congrArg UInt8.toNat h4
  simp only [UInt8.toNat_ofNat'] at g0
  have g1 := g 24 c d h1
  have g2 := g 16 c d h2
  have g3 := g 8 c d h3
  have l1 := c.isLt
  have l2 := d.isLt
  apply BitVec.eq_of_toNat_eq
  omega

/-- A frame at one place of which another byte stands is no whole frame. -/
theorem whole_set {x : List UInt8} {i : Nat} {y : UInt8} (hi : i < (frm x).length) (hy : y ≠ (frm x)[i]) : wholeF ((frm x).set i y) = none := by
  cases hw : wholeF ((frm x).set i y) with
  | none => rfl
  | some x' =>
    exfalso
    have hlen := wholeF_len hw
    have hone : oneF ((frm x).set i y) = some x' := by
      have hs : scanF ((frm x).set i y) = [x'] := by
        unfold wholeF at hw
        split at hw
        · split at hw
          · rename_i h1 _; injection hw with hw; subst hw; exact h1
          · cases hw
        · cases hw
      rw [scanF_eq] at hs
      cases ho : oneF ((frm x).set i y) with
      | none => rw [ho] at hs; cases hs
      | some z => rw [ho] at hs; simp only [List.cons.injEq] at hs; rw [hs.1]
    simp only [List.length_set, frm_length] at hlen
    have hxl : x'.length = x.length := by omega
    simp only [oneF] at hone
    obtain ⟨p, h1, h2⟩ := Option.bind_eq_some_iff.1 hone
    obtain ⟨z, r⟩ := p
    simp only at h2
    split at h2
    · cases h2
    split at h2
    · rename_i hr4 hsum
      injection h2 with h2; subst h2
      obtain ⟨g1, g2, g3, g4, g5⟩ := rdBytes_iff.1 h1
      have hz : z.length = numOf (((frm x).set i y).take 6) := by rw [g4, List.length_take, List.length_drop]; omega
      have hD : frm x = (be 6 x.length ++ x) ++ sum4 (crc (be 6 x.length ++ x)) := rfl
      have hDl : (be 6 x.length ++ x).length = 6 + x.length := by simp [be_length]
      rw [← hz] at g5
      rw [g5, hxl] at hsum
      rcases Nat.lt_or_ge i (6 + x.length) with h6 | h6
      · rcases Nat.lt_or_ge i 6 with h7 | h7
        · -- in the length
          have e1 : (frm x).take 6 = be 6 x.length := by rw [hD, List.append_assoc, List.take_left' (be_length _ _)]
          have e2 : ((frm x).set i y).take 6 = (be 6 x.length).set i y := by rw [List.take_set, e1]
          have hx2 : x.length < 256 ^ 6 := by
            rw [← hxl, hz]
            have := numOf_lt (((frm x).set i y).take 6)
            refine Nat.lt_of_lt_of_le this (Nat.pow_le_pow_right (by omega) (by simp; omega))
          have e3 : numOf ((be 6 x.length).set i y) = numOf (be 6 x.length) := by
            rw [← e2, ← hz, numOf_be _ _ hx2, hxl]
          have e4 := numOf_inj (by simp) e3
          have e5 : (be 6 x.length)[i]'(by rw [be_length]; omega) = y := by
            have : ((be 6 x.length).set i y)[i]'(by simp [be_length]; omega) = y := by simp
            rw [← this]; congr 1; exact e4.symm
          apply hy
          rw [← e5]
          have hi1 : i < (be 6 x.length).length := by rw [be_length]; omega
          have hi2 : i < (be 6 x.length ++ x).length := by omega
          exact (List.getElem_append_left hi1).symm.trans (List.getElem_append_left hi2).symm
        · -- in what is held
          have e1 : ((frm x).set i y).take (6 + x.length) = (be 6 x.length ++ x).set i y := by rw [List.take_set, hD, List.take_left' hDl]
          have e2 : ((frm x).set i y).drop (6 + x.length) = sum4 (crc (be 6 x.length ++ x)) := by
            rw [List.drop_set_of_lt (by omega), hD, List.drop_left' hDl]
          rw [e1, e2, List.take_of_length_le (by simp [sum4])] at hsum
          have e3 := sum4_inj hsum
          have hi' : i < (be 6 x.length ++ x).length := by omega
          have e4 : (be 6 x.length ++ x) = (be 6 x.length ++ x).take i ++ (be 6 x.length ++ x)[i] :: (be 6 x.length ++ x).drop (i + 1) := by
            rw [List.getElem_cons_drop]; exact (List.take_append_drop _ _).symm
          rw [List.set_eq_take_append_cons_drop, if_pos hi'] at e3
          have e5 := crc_one (e3.trans (congrArg crc e4))
          apply hy
          rw [e5]
          exact (List.getElem_append_left hi').symm
      · -- in the sum
        have e1 : ((frm x).set i y).take (6 + x.length) = be 6 x.length ++ x := by
          rw [List.take_set_of_le (by omega), hD, List.take_left' hDl]
        have e2 : ((frm x).set i y).drop (6 + x.length) = (sum4 (crc (be 6 x.length ++ x))).set (i - (6 + x.length)) y := by
          rw [List.drop_set, if_neg (by omega), hD, List.drop_left' hDl]
        rw [e1, e2, List.take_of_length_le (by simp [sum4])] at hsum
        have hs4 : (sum4 (crc (be 6 x.length ++ x))).length = 4 := rfl
        have hi2 : i - (6 + x.length) < (sum4 (crc (be 6 x.length ++ x))).length := by rw [frm_length] at hi; rw [hs4]; omega
        have e5 : (sum4 (crc (be 6 x.length ++ x)))[i - (6 + x.length)] = y := by
          have : ((sum4 (crc (be 6 x.length ++ x))).set (i - (6 + x.length)) y)[i - (6 + x.length)]'(by rw [List.length_set]; exact hi2) = y := by simp
          rw [← this]; congr 1
        apply hy
        rw [← e5]
        simp only [frm]
        rw [List.getElem_append_right (by omega)]
        congr 1; omega
    · cases h2

theorem whole_frm (x : List UInt8) (h : x.length ≤ 10000) : wholeF (frm x) = some x := by
  have := scanF_frm x [] h
  rw [List.append_nil, scanF_short [] (by simp)] at this
  unfold wholeF
  rw [this]; simp only
  rw [if_pos (frm_length x).symm]
theorem whole_more (x : List UInt8) (h : x.length ≤ 10000) (c : UInt8) : wholeF (frm x ++ [c]) = none := by
  have := scanF_frm x [c] h
  rw [scanF_short [c] (by simp)] at this
  unfold wholeF
  rw [this]; simp only
  rw [if_neg (by rw [List.length_append, frm_length]; simp)]
theorem whole_take (x : List UInt8) (h : x.length ≤ 10000) (k : Nat) (hk : k < (frm x).length) : wholeF ((frm x).take k) = none := by
  cases hw : wholeF ((frm x).take k) with
  | none => rfl
  | some x' =>
    exfalso
    have hlen := wholeF_len hw
    have hone : oneF ((frm x).take k) = some x' := by
      have hs : scanF ((frm x).take k) = [x'] := by
        unfold wholeF at hw
        split at hw
        · split at hw
          · rename_i h1 _; injection hw with hw; subst hw; exact h1
          · cases hw
        · cases hw
      rw [scanF_eq] at hs
      cases ho : oneF ((frm x).take k) with
      | none => rw [ho] at hs; cases hs
      | some z => rw [ho] at hs; simp only [List.cons.injEq] at hs; rw [hs.1]
    simp only [oneF] at hone
    obtain ⟨p, h1, h2⟩ := Option.bind_eq_some_iff.1 hone
    obtain ⟨z, r⟩ := p
    simp only at h2
    split at h2
    · cases h2
    split at h2
    · injection h2 with h2; subst h2
      obtain ⟨g1, g2, g3, g4, g5⟩ := rdBytes_iff.1 h1
      have hz : z.length = numOf (((frm x).take k).take 6) := by rw [g4, List.length_take, List.length_drop]; omega
      have hk6 : 6 ≤ k := by simp only [List.length_take] at g1; omega
      have e1 : ((frm x).take k).take 6 = be 6 x.length := by
        rw [List.take_take, Nat.min_eq_left hk6]
        have hD : frm x = be 6 x.length ++ (x ++ sum4 (crc (be 6 x.length ++ x))) := by simp [frm]
        rw [hD, List.take_left' (be_length _ _)]
      rw [e1, numOf_be _ _ (by omega)] at hz
      simp only [List.length_take] at hlen
      rw [frm_length] at hk
      omega
    · cases h2

theorem openF_make (x y : List UInt8) (hx : x.length ≤ 4000) (hy : y.length ≤ 256) : openF (makeF x y) = some (x, y) := by
  have h1 : (be 6 x.length ++ x ++ be 6 y.length ++ y).length ≤ 10000 := by simp [be_length]; omega
  rw [openF, makeF, whole_frm _ h1, Option.bind_some]
  have g : ∀ (top : Nat) (z r : List UInt8), z.length ≤ top → z.length < 256 ^ 6 → rdBytes top (be 6 z.length ++ z ++ r) false = some (z, r) := by
    intro top z r ht hz
    rw [rdBytes_iff]
    have e1 : (be 6 z.length ++ z ++ r).take 6 = be 6 z.length := by rw [List.append_assoc, List.take_left' (be_length _ _)]
    have e2 : (be 6 z.length ++ z ++ r).drop 6 = z ++ r := by rw [List.append_assoc, List.drop_left' (be_length _ _)]
    rw [e1, numOf_be _ _ hz, ← List.drop_drop, e2]
    refine ⟨by simp [be_length], ht, by simp [be_length], (List.take_left' rfl).symm, (List.drop_left' rfl).symm⟩
  have e1 : be 6 x.length ++ x ++ be 6 y.length ++ y = be 6 x.length ++ x ++ (be 6 y.length ++ y) := by simp
  rw [e1, g 4000 x _ hx (by omega), Option.bind_some]
  have e2 := g 256 y [] hy (by omega)
  rw [List.append_nil] at e2
  simp only [e2, Option.bind_some]
  rfl
theorem openF_none {l : List UInt8} (h : wholeF l = none) : openF l = none := by rw [openF, h]; rfl
theorem makeF_inj {x y x' y' : List UInt8} (h1 : x.length ≤ 4000) (h2 : y.length ≤ 256) (h3 : x'.length ≤ 4000) (h4 : y'.length ≤ 256) : makeF x y = makeF x' y' ↔ x = x' ∧ y = y' := by
  constructor
  · intro h
    have e := openF_make x y h1 h2
    rw [h, openF_make x' y' h3 h4] at e
    injection e with e
    injection e with e1 e2
    exact ⟨e1.symm, e2.symm⟩
  · rintro ⟨rfl, rfl⟩; rfl

theorem make_take (x y : List UInt8) (h : x.length + y.length ≤ 9000) (k : Nat) (hk : k < (makeF x y).length) : openF ((makeF x y).take k) = none :=
  openF_none (whole_take _ (by simp [be_length]; omega) k hk)
theorem make_set {x y : List UInt8} {i : Nat} {c : UInt8} (hi : i < (makeF x y).length) (hc : c ≠ (makeF x y)[i]) : openF ((makeF x y).set i c) = none :=
  openF_none (whole_set hi hc)
theorem make_more (x y : List UInt8) (h : x.length + y.length ≤ 9000) (c : UInt8) : openF (makeF x y ++ [c]) = none :=
  openF_none (whole_more _ (by simp [be_length]; omega) c)

end Go.G

namespace Go.G
open Go.Ab Go.Proofs Go.RowKit
set_option linter.unusedVariables false
set_option linter.unusedSimpArgs false
set_option maxRecDepth 100000

theorem abin_bool_eq (a b : Bool) : abin Try.prog false .eql Ty.bool (.bool a) (.bool b) = some (.bool (a == b)) := by
  cases a <;> cases b <;> simp [abin, aeq, U.bool]
theorem abin_bool_ne (a b : Bool) : abin Try.prog false .neq Ty.bool (.bool a) (.bool b) = some (.bool (a != b)) := by
  cases a <;> cases b <;> simp [abin, aeq, U.bool]

theorem awake11_ok (M : Store) : R F.fettlelaw11_awake #[] M fun v M' => Up M M' ∧ v = .bool true := by
  refine R.cps fun Q hQ => ?_
  apply T_fettlelaw11_awake
  unfold S_fettlelaw11_awake
  have e97 : (.int .u8 112 : Value) = bv 112 := rfl
  rw [e_lit1]
  simp only [LT_eq]
  rw [e97]
  have hN1 : N M (M.push (some (.inl ([bv 112], Ty.uint8, true)))) (.slice (some ⟨M.n, 0, none⟩) 1 1) [112] := Nw.lit (n := 1) (Nat.le_refl _) rfl
  refine conv_ok (Up.push M _) hN1 (by simp) fun M2 hu2 h2 _ => ?_
  have e5 : ∀ K : List Value → Prop, OP (bldL (.int .u8 0) 1 5 [(0, (.int .u8 118)), (1, (.int .u8 97)), (2, (.int .u8 108)), (3, (.int .u8 117)), (4, (.int .u8 101))]) K = K [bv 118, bv 97, bv 108, bv 117, bv 101] := fun K => by kernel_rfl
  rw [e5]
  have hN2 : N M2 (M2.push (some (.inl ([bv 118, bv 97, bv 108, bv 117, bv 101], Ty.uint8, true)))) (.slice (some ⟨M2.n, 0, none⟩) 5 5) [118, 97, 108, 117, 101] := Nw.lit (n := 5) (Nat.le_refl _) rfl
  refine conv_ok (Up.push M2 _) hN2 (by simp) fun M4 hu4 h4 _ => ?_
  refine (Make_ok (Sl.up h2.by hu4) h4.by (by simp) (by simp)).mono fun v5 M5 ⟨hu5, h5⟩ => ?_
  have hml : (makeF [112] [118, 97, 108, 117, 101]).length = 28 := by rw [makeF_length]; rfl
  refine (Open_ok h5.by (by omega)).mono fun r6 M6 ⟨hu6, ho6⟩ => ?_
  rw [openF_make _ _ (by simp) (by simp)] at ho6
  obtain ⟨u, w, M6', hr6, _, hu', hw', _, _⟩ := ho6
  subst hr6
  rw [tup3_0, OP_some, tup3_1, OP_some, tup3_2, OP_some, h5.sl.lenV, OP_some, hml]
  have eq1 : binI .quo (.int .i64 ((28 : Nat) : Int)) (.int .i64 2) = some (.int .i64 ((14 : Nat) : Int)) := by kernel_rfl
  rw [eq1, OP_some]
  obtain ⟨w7, e7, hw7⟩ := By.cut (Sl.up h5.by hu6) (lo := none) (hi := some (.int .i64 ((14 : Nat) : Int))) (a := 0) (r := 14) (abound_nat (by omega)) rfl (by omega) (by omega)
  rw [List.drop_zero] at hw7
  rw [e7, OP_some]
  refine (Open_ok hw7 (by simp; omega)).mono fun r8 M8 ⟨hu8, ho8⟩ => ?_
  rw [make_take _ _ (by simp) 14 (by rw [hml]; omega)] at ho8
  obtain ⟨u8, w8, _, hr8, _, _, _, _, _⟩ := ho8
  subst hr8
  have eq2 : ∀ K : Value → Prop, OP (binI .eql (.int .i64 ((28 : Nat) : Int)) (.int .i64 28)) K = K (.bool true) := fun K => by kernel_rfl
  have ha : B M8 u [112] := Sl.up hu'.by hu8
  have hb : B M8 w [118, 97, 108, 117, 101] := Sl.up hw'.by hu8
  have es : ∀ K : Value → Prop, OP (binS .eql (.string ⟨[112].toArray⟩) (.string ⟨#[112]⟩)) K = K (.bool true) := fun K => by
    have := str_eql [112] [112] K
    simpa using this
  have es2 : ∀ K : Value → Prop, OP (binS .eql (.string ⟨[118, 97, 108, 117, 101].toArray⟩) (.string ⟨#[118, 97, 108, 117, 101]⟩)) K = K (.bool true) := fun K => by
    have := str_eql [118, 97, 108, 117, 101] [118, 97, 108, 117, 101] K
    simpa using this
  rw [tup3_0, OP_some, tup3_1, OP_some, tup3_2, OP_some, OP_some, eq2, BR_bool, if_pos rfl, BR_bool, if_pos (by simp), cvBS_ok ha, OP_some, es, BR_bool, if_pos rfl, cvBS_ok hb, OP_some, es2, BR_bool, if_pos rfl, e_not]
  exact ⟨rfl, hQ _ _ ⟨((((hu2.trans hu4).trans hu5).trans hu6).trans hu8), rfl⟩⟩

theorem e_and7 (n : Nat) (hn : n < 2 ^ 40) : ∃ k : Nat, k < 8 ∧ binI .and (.int .i64 (n : Int)) (.int .i64 7) = some (.int .i64 (k : Int)) := by
  have h : binI .and (.int .i64 (n : Int)) (.int .i64 7) = some (.int .i64 (IntKind.wrap .i64 (BitVec.ofInt 64 n &&& BitVec.ofInt 64 7).toNat)) := rfl
  have hk : (BitVec.ofInt 64 n &&& BitVec.ofInt 64 7).toNat < 8 := by
    rw [BitVec.toNat_and]
    have : (BitVec.ofInt 64 7).toNat = 7 := rfl
    rw [this]
    exact Nat.lt_of_le_of_lt Nat.and_le_right (by decide)
  refine ⟨_, hk, ?_⟩
  rw [h, w64 (by omega) (by omega)]
theorem shl_bit {j : Nat} (hj : j < 8) : ∃ b : UInt8, b ≠ 0 ∧ binI .shl (.int .u8 1) (.int .u64 (j : Int)) = some (bv b) := by
  have : j = 0 ∨ j = 1 ∨ j = 2 ∨ j = 3 ∨ j = 4 ∨ j = 5 ∨ j = 6 ∨ j = 7 := by omega
  rcases this with rfl | rfl | rfl | rfl | rfl | rfl | rfl | rfl
  · exact ⟨1, by decide, by kernel_rfl⟩
  · exact ⟨2, by decide, by kernel_rfl⟩
  · exact ⟨4, by decide, by kernel_rfl⟩
  · exact ⟨8, by decide, by kernel_rfl⟩
  · exact ⟨16, by decide, by kernel_rfl⟩
  · exact ⟨32, by decide, by kernel_rfl⟩
  · exact ⟨64, by decide, by kernel_rfl⟩
  · exact ⟨128, by decide, by kernel_rfl⟩
theorem e_xor8 (a b : UInt8) : binI .xor (bv a) (bv b) = some (bv (a ^^^ b)) := by
  have h : binI .xor (bv a) (bv b) = some (.int .u8 (IntKind.wrap .u8 (BitVec.ofInt 8 (a.toNat : Int) ^^^ BitVec.ofInt 8 (b.toNat : Int)).toNat)) := rfl
  have g : ∀ c : UInt8, BitVec.ofInt 8 (c.toNat : Int) = c.toBitVec := by
    intro c
    apply BitVec.eq_of_toNat_eq
    rw [BitVec.toNat_ofInt]
    have := c.toNat_lt
    have e : c.toBitVec.toNat = c.toNat := rfl
    omega
  rw [h, g, g, wrap_u8]
  simp [bv]
theorem xor8_ne {a b : UInt8} (h : b ≠ 0) : a ^^^ b ≠ a := by
  intro e
  apply h
  have := congrArg (fun z => a ^^^ z) e
  simpa [← UInt8.xor_assoc] using this
theorem e_quo (a b : Nat) (hb : 0 < b) (ha : a < 2 ^ 62) : binI .quo (.int .i64 (a : Int)) (.int .i64 (b : Int)) = some (.int .i64 ((a / b : Nat) : Int)) := by
  have h : binI .quo (.int .i64 (a : Int)) (.int .i64 (b : Int)) = if (b : Int) = 0 then none else some (.int .i64 (IntKind.wrap .i64 ((a : Int).tdiv b))) := rfl
  have h2 : (a : Int).tdiv b = ((a / b : Nat) : Int) := by rw [Int.tdiv_eq_ediv_of_nonneg (by omega)]; rfl
  have h3 : a / b ≤ a := Nat.div_le_self _ _
  rw [h, if_neg (by omega), h2]
  generalize a / b = q at *
  rw [w64 (by omega) (by omega)]

theorem ArtiTurned_ok {M : Store} {v0 v1 : Value} {x y : List UInt8} (hx : B M v0 x) (hy : B M v1 y) {n m : Int} (n1 : -9223372036854775808 ≤ n) (n2 : n ≤ 9223372036854775807) (m1 : -9223372036854775808 ≤ m) (m2 : m ≤ 9223372036854775807) :
    R F.fettlelaw11_ArtiTurned #[v0, v1, .int .i64 n, .int .i64 m] M fun v M' => v = .bool true := by
  refine R.cps fun Q hQ => ?_
  apply T_fettlelaw11_ArtiTurned
  unfold S_fettlelaw11_ArtiTurned
  have hend : ∀ M1, R F.fettlelaw11_awake #[] M1 fun t31 M2 => NTs [t31] ∧ Q t31 M2 := by
    intro M1
    refine (awake11_ok M1).mono fun v M2 ⟨hu2, hv⟩ => ?_
    subst hv; exact ⟨rfl, hQ _ _ rfl⟩
  rw [hx.lenV, OP_some, e_gtr, BR_dec]
  split
  · exact hend _
  rw [hy.lenV, OP_some, e_gtr, BR_dec]
  split
  · exact hend _
  rename_i hx2 hy2
  refine (Make_ok hx hy (by omega) (by omega)).mono fun v3 M3 ⟨hu3, h3⟩ => ?_
  have hml := makeF_length x y
  refine (Open_ok h3.by (by omega)).mono fun r4 M4 ⟨hu4, ho4⟩ => ?_
  rw [openF_make _ _ (by omega) (by omega)] at ho4
  obtain ⟨u, w, M4', hr4, _, hu', hw', _, _⟩ := ho4
  subst hr4
  have uM4 := hu3.trans hu4
  rw [tup3_0, OP_some, tup3_1, OP_some, tup3_2, OP_some, e_not, BR_bool, if_neg (by simp), cvBS_ok hu'.by, OP_some, cvBS_ok (Sl.up hx uM4), OP_some, str_neq, BR_dec, if_neg (by simp),
    cvBS_ok hw'.by, OP_some, cvBS_ok (Sl.up hy uM4), OP_some, str_neq, BR_dec, if_neg (by simp), e_lit0, LT_eq]
  have h34 : B M4 v3 (makeF x y) := Sl.up h3.by hu4
  refine copy0 h34 (by omega) fun v6 M6 hu6 h6 => ?_
  obtain ⟨k, hk, ek⟩ := e_and16 n n1 n2
  rw [ek, OP_some, h3.sl.lenV, OP_some, e_mul, w64 (by omega) (by omega)]
  have e8 : (8 : Int) * ((makeF x y).length : Int) = ((8 * (makeF x y).length : Nat) : Int) := by omega
  rw [e8, e_rem _ _ (by omega), OP_some]
  have hlt : k % (8 * (makeF x y).length) < 8 * (makeF x y).length := Nat.mod_lt _ (by omega)
  generalize k % (8 * (makeF x y).length) = p at *
  have eq8 : binI .quo (.int .i64 (p : Int)) (.int .i64 8) = some (.int .i64 ((p / 8 : Nat) : Int)) := e_quo p 8 (by omega) (by omega)
  rw [eq8, OP_some, OP_some]
  have hp8 : p / 8 < (makeF x y).length := by omega
  generalize p / 8 = i at *
  obtain ⟨q, eq, eld⟩ := By.at h6.by (i := i) hp8 .i64
  obtain ⟨j, hj, ej⟩ := e_and7 p (by omega)
  rw [eq, OP_some, eld, OP_some, ej, OP_some, e_cvI, wrap_u64 _ (by omega)]
  obtain ⟨b, hb, eb⟩ := shl_bit hj
  rw [eb, OP_some, e_xor8, OP_some]
  obtain ⟨q', M7, e7, e7', hu7, h7, _⟩ := N.put hu6 h6 hp8 .i64 ((makeF x y)[i] ^^^ b)
  have hqq : q' = q := by rw [eq] at e7; injection e7 with e7; exact e7.symm
  subst hqq
  rw [OP_some, e7', OP_some]
  refine (Open_ok h7.by (by simp; omega)).mono fun r8 M8 ⟨hu8, ho8⟩ => ?_
  rw [make_set hp8 (xor8_ne hb)] at ho8
  obtain ⟨_, _, _, hr8, _, _, _, _, _⟩ := ho8
  subst hr8
  have u48 : Up M4 M8 := hu7.trans hu8
  obtain ⟨k2, hk2, ek2⟩ := e_and16 m m1 m2
  rw [tup3_0, OP_some, tup3_1, OP_some, tup3_2, OP_some, ek2, OP_some, OP_some, e_rem _ _ (by omega), OP_some]
  have hlt2 : k2 % (makeF x y).length < (makeF x y).length := Nat.mod_lt _ (by omega)
  generalize k2 % (makeF x y).length = p2 at *
  obtain ⟨w9, e9, hw9⟩ := By.cut (Sl.up h34 u48) (lo := none) (hi := some (.int .i64 (p2 : Int))) (a := 0) (r := p2) (abound_nat (by omega)) rfl (by omega) (by omega)
  rw [List.drop_zero] at hw9
  rw [e9, OP_some]
  refine (Open_ok hw9 (by simp; omega)).mono fun r9 M9 ⟨hu9, ho9⟩ => ?_
  rw [make_take x y (by omega) p2 hlt2] at ho9
  obtain ⟨_, _, _, hr9, _, _, _, _, _⟩ := ho9
  subst hr9
  rw [tup3_0, OP_some, tup3_1, OP_some, tup3_2, OP_some, e_lit0, LT_eq]
  have h39 : B M9 v3 (makeF x y) := Sl.up (Sl.up h34 u48) hu9
  refine copy0 h39 (by omega) fun v11 M11 hu11 h11 => ?_
  have e0 : (.int .u8 0 : Value) = bv 0 := rfl
  rw [e_lit1, LT_eq, e0]
  have h12 : N M9 (M11.push (some (.inl ([bv 0], Ty.uint8, true)))) (.slice (some ⟨M11.n, 0, none⟩) 1 1) [0] := Nw.lit (n := 1) hu11.le rfl
  obtain ⟨v13, M13, e13, hu13, h13, _⟩ := NB.app (hu11.push' _) (Nw.up h11 (Up.push M11 _)) h12.by (by simp; omega)
  rw [e13, OP2_some]
  refine (Open_ok h13.by (by simp; omega)).mono fun r14 M14 ⟨hu14, ho14⟩ => ?_
  rw [make_more x y (by omega) 0] at ho14
  obtain ⟨_, _, _, hr14, _, _, _, _, _⟩ := ho14
  subst hr14
  rw [tup3_0, OP_some, tup3_1, OP_some, tup3_2, OP_some]
  simp only [e_not, BR_bool, Option.isSome_none, Bool.not_false, if_true]
  exact hend _

/-- Told slices, one behind the other. -/
theorem L11_loop {x75 : Value} {xs : List (List UInt8)} (hxs : ∀ x ∈ xs, x.length ≤ 2 ^ 24) (hxl : xs.length ≤ 100) {Q : Value → Store → Prop} (hQ : ∀ M', Q (.bool true) M') :
    ∀ (k i : Nat) (M : Store), k + i = xs.length → BB M x75 xs →
    P_fettlelaw11_ArtiTells_1 x75 (.int .i64 (xs.length : Int)) (.int .i64 (i : Int)) M Q := by
  intro k
  induction k with
  | zero =>
    intro i M hi hls
    apply T_fettlelaw11_ArtiTells_1
    unfold S_fettlelaw11_ArtiTells_1
    simp (disch := omega) only [ev, if_neg]
    apply T_fettlelaw11_ArtiTells_3
    unfold S_fettlelaw11_ArtiTells_3
    refine (awake11_ok M).mono fun v M2 ⟨hu2, hv⟩ => ?_
    subst hv; exact ⟨rfl, hQ _⟩
  | succ k ih =>
    intro i M hi hls
    apply T_fettlelaw11_ArtiTells_1
    unfold S_fettlelaw11_ArtiTells_1
    simp (disch := omega) only [ev, if_pos]
    apply T_fettlelaw11_ArtiTells_2
    unfold S_fettlelaw11_ArtiTells_2
    obtain ⟨p, q, p1, p2, p3⟩ := hls.at (i := i) (by omega) .i64
    have hl := hxs _ (List.getElem_mem (show i < xs.length by omega))
    generalize hl : xs[i]'(by omega) = l at *
    have p3 : B M q l := p3
    rw [p1, OP_some, p2, OP_some]
    refine (Open_ok p3 (by assumption)).mono fun r1 M1 ⟨hu1, u, w, M1', hr1, _, h2, h3, _⟩ => ?_
    subst hr1
    rw [tup3_0, OP_some, tup3_1, OP_some, tup3_2, OP_some]
    refine (ROpen_ok (Sl.up p3 hu1) (by assumption)).mono fun r2 M2 ⟨hu2, u', w', hr2, h4, h5⟩ => ?_
    subst hr2
    rw [tup3_0, OP_some, tup3_1, OP_some, tup3_2, OP_some, abin_bool_ne, OP_some, BR_bool, if_neg (by simp), cvBS_ok (Sl.up h2.by hu2), OP_some, cvBS_ok h4, OP_some, str_neq, BR_dec, if_neg (by simp),
      cvBS_ok (Sl.up h3.by hu2), OP_some, cvBS_ok h5, OP_some, str_neq, BR_dec, if_neg (by simp), e_add, w64 (by omega) (by omega)]
    exact ih (i + 1) M2 (by omega) (hls.up By.up' (hu1.trans hu2))

theorem isSome_up {M M' : Store} {b : Nat} (h : Up M M') (hs : (M.get b).isSome = true) : (M'.get b).isSome = true := by
  obtain ⟨x, hx⟩ := Option.isSome_iff_exists.1 hs
  rw [h.get hx]; rfl
theorem e_lit1b (z : Value) (a : UInt8) (K : List Value → Prop) : OP (bldL z 1 1 [(0, bv a)]) K = K [bv a] := e_lit1 z _ _ K
theorem e_lit6s (z : Value) (a b c d e f : Option Addr) (n1 c1 n2 c2 n3 c3 n4 c4 n5 c5 n6 c6 : Nat) (K : List Value → Prop) : OP (bldL z 1 6 [(0, .slice a n1 c1), (1, .slice b n2 c2), (2, .slice c n3 c3), (3, .slice d n4 c4), (4, .slice e n5 c5), (5, .slice f n6 c6)]) K = K [.slice a n1 c1, .slice b n2 c2, .slice c n3 c3, .slice d n4 c4, .slice e n5 c5, .slice f n6 c6] := by kernel_rfl

theorem ArtiTells_ok {M : Store} {v0 v1 v2 : Value} {x y z : List UInt8} (hx : B M v0 x) (hy : B M v1 y) (hz : B M v2 z) {n : Int} (n1 : -9223372036854775808 ≤ n) (n2 : n ≤ 9223372036854775807) (c : UInt8) :
    R F.fettlelaw11_ArtiTells #[v0, v1, v2, .int .i64 n, bv c] M fun v M' => v = .bool true := by
  refine R.cps fun Q hQ => ?_
  apply T_fettlelaw11_ArtiTells
  unfold S_fettlelaw11_ArtiTells
  have hend : ∀ M1, R F.fettlelaw11_awake #[] M1 fun t31 M2 => NTs [t31] ∧ Q t31 M2 := by
    intro M1
    refine (awake11_ok M1).mono fun v M2 ⟨hu2, hv⟩ => ?_
    subst hv; exact ⟨rfl, hQ _ _ rfl⟩
  rw [hx.lenV, OP_some, e_gtr, BR_dec]
  split
  · exact hend _
  rw [hy.lenV, OP_some, e_gtr, BR_dec]
  split
  · exact hend _
  rw [hz.lenV, OP_some, e_gtr, BR_dec]
  split
  · exact hend _
  rename_i hx2 hy2 hz2
  have hml := makeF_length x y
  refine (RMake_ok hx hy (by omega) (by omega)).mono fun v4 M4 ⟨hu4, h4⟩ => ?_
  refine (Make_ok (Sl.up hx hu4) (Sl.up hy hu4) (by omega) (by omega)).mono fun v5 M5 ⟨hu5, h5⟩ => ?_
  refine ⟨hu5.tdj _ _, ?_⟩
  generalize makeF x y = mk at *
  have h45 : B M5 v4 mk := Sl.up h4.by hu5
  rw [cvBS_ok h5.by, OP_some, cvBS_ok h45, OP_some, str_neq, BR_dec, if_neg (by simp), e_lit0, LT_eq]
  refine copy0 h45 (by omega) fun v7 M7 hu7 h7 => ?_
  obtain ⟨k, hk, ek⟩ := e_and16 n n1 n2
  rw [ek, OP_some, h7.sl.lenV, OP_some, e_rem _ _ (by omega), OP_some]
  have hlt : k % mk.length < mk.length := Nat.mod_lt _ (by omega)
  generalize k % mk.length = i at *
  obtain ⟨q', M8, e7, e7', hu8, h8, _⟩ := N.put hu7 h7 hlt .i64 c
  rw [e7, OP_some, e7', OP_some]
  have h48 : B M8 v4 mk := Sl.up h45 hu8
  obtain ⟨w9, e9, hw9⟩ := By.cut h48 (lo := none) (hi := some (.int .i64 (i : Int))) (a := 0) (r := i) (abound_nat (by omega)) rfl (by omega) (by omega)
  rw [List.drop_zero] at hw9
  rw [e9, OP_some, e_lit0, LT_eq]
  have u9 := Up.push M8 (some (.inl (([] : List Value), Ty.uint8, true)))
  have n9 : (M8.push (some (.inl (([] : List Value), Ty.uint8, true)))).n = M8.n + 1 := rfl
  generalize M8.push (some (.inl (([] : List Value), Ty.uint8, true))) = M9 at *
  obtain ⟨v10, M10, e10, hu10, h10, _, _, hc10⟩ := NB.app (Ch.refl [] M9) (N.lit0 M9 M9 (some ⟨M8.n, 0, none⟩) fun x hx => by injection hx with hx; subst hx; rfl) (Sl.up h48 u9) (by simp; omega)
  rw [e10, OP2_some]
  have hc10' : Up M9 M10 := hc10
  refine ⟨hc10'.tdj _ _, ?_⟩
  rw [List.nil_append] at h10
  rw [e_lit1b, LT_eq]
  have u11 := Up.push M10 (some (.inl ([bv c], Ty.uint8, true)))
  have n11 : (M10.push (some (.inl ([bv c], Ty.uint8, true)))).n = M10.n + 1 := rfl
  have h11 : N M10 (M10.push (some (.inl ([bv c], Ty.uint8, true)))) (.slice (some ⟨M10.n, 0, none⟩) 1 1) [c] := Nw.lit (n := 1) (Nat.le_refl _) rfl
  generalize M10.push (some (.inl ([bv c], Ty.uint8, true))) = M11 at *
  obtain ⟨v12, M12, e12, hu12, h12, _, _, hc12⟩ := NB.app (hu10.trans u11) (Nw.up h10 u11) h11.by (by simp; omega)
  rw [e12, OP2_some]
  refine ⟨tdj_app hc12 (j := 8) (by simp) fun b hb => ?_, ?_⟩
  · obtain ⟨g1, g2, g3⟩ := Nw.kil_in h10 hb
    exact ⟨isSome_up u11 g3, g1, g2⟩
  have u812 : Up M8 M12 := u9.trans hu12
  rw [e_lit0, LT_eq]
  have u13 := Up.push M12 (some (.inl (([] : List Value), Ty.uint8, true)))
  have n13 : (M12.push (some (.inl (([] : List Value), Ty.uint8, true)))).n = M12.n + 1 := rfl
  generalize M12.push (some (.inl (([] : List Value), Ty.uint8, true))) = M13 at *
  have h413 : B M13 v4 mk := Sl.up (Sl.up h48 u812) u13
  obtain ⟨v14, M14, e14, hu14, h14, _, _, hc14⟩ := NB.app (Ch.refl [] M13) (N.lit0 M13 M13 (some ⟨M12.n, 0, none⟩) fun x hx => by injection hx with hx; subst hx; rfl) h413 (by simp; omega)
  rw [e14, OP2_some]
  have hc14' : Up M13 M14 := hc14
  refine ⟨hc14'.tdj _ _, ?_⟩
  rw [List.nil_append] at h14
  obtain ⟨v15, M15, e15, hu15, h15, _, _, hc15⟩ := NB.app hu14 h14 (Sl.up h413 hu14) (by omega)
  rw [e15, OP2_some]
  refine ⟨tdj_app hc15 (j := 14) (by simp) fun b hb => ?_, ?_⟩
  · obtain ⟨g1, g2, g3⟩ := Nw.kil_in h14 hb
    exact ⟨g3, g1, g2⟩
  have u815 : Up M8 M15 := (u812.trans u13).trans hu15
  have u1215 : Up M12 M15 := u13.trans hu15
  have uM8 : Up M M8 := (hu4.trans hu5).trans hu8
  have uM15 := uM8.trans u815
  have g0 : B M15 v2 z := Sl.up hz uM15
  have g1 : B M15 v4 mk := Sl.up h48 u815
  have g2 : B M15 v7 (mk.set i c) := Sl.up h8.by u815
  have g3 : B M15 w9 (mk.take i) := Sl.up hw9 u815
  have g4 : B M15 v12 (mk ++ [c]) := Sl.up h12.by u1215
  have g5 : B M15 v15 (mk ++ mk) := h15.by
  obtain ⟨a0, c0, rfl⟩ := g0.slice
  obtain ⟨a1, c1, rfl⟩ := g1.slice
  obtain ⟨a2, c2, rfl⟩ := g2.slice
  obtain ⟨a3, c3, rfl⟩ := g3.slice
  obtain ⟨a4, c4, rfl⟩ := g4.slice
  obtain ⟨a5, c5, rfl⟩ := g5.slice
  rw [e_lit6s, LT_eq, e_lenV]
  have u4 := Up.push M15 (some (.inl ([Value.slice a0 z.length c0, .slice a1 mk.length c1, .slice a2 (mk.set i c).length c2, .slice a3 (mk.take i).length c3, .slice a4 (mk ++ [c]).length c4, .slice a5 (mk ++ mk).length c5], Ty.sl_uint8, true)))
  have hBB : BB (M15.push (some (.inl ([Value.slice a0 z.length c0, .slice a1 mk.length c1, .slice a2 (mk.set i c).length c2, .slice a3 (mk.take i).length c3, .slice a4 (mk ++ [c]).length c4, .slice a5 (mk ++ mk).length c5], Ty.sl_uint8, true)))) (.slice (some ⟨M15.n, 0, none⟩) 6 6) [z, mk, mk.set i c, mk.take i, mk ++ [c], mk ++ mk] := by
    refine ⟨_, (Nw.lit (s := 1) (M0 := M15) (n := 6) (Nat.le_refl _) rfl).sl, ?_, ?_, ?_, ?_, ?_, ?_, trivial⟩
    · exact Sl.up g0 u4
    · exact Sl.up g1 u4
    · exact Sl.up g2 u4
    · exact Sl.up g3 u4
    · exact Sl.up g4 u4
    · exact Sl.up g5 u4
  refine L11_loop (xs := [z, mk, mk.set i c, mk.take i, mk ++ [c], mk ++ mk]) ?_ (by simp) (fun M' => hQ _ _ rfl) 6 0 _ rfl hBB
  intro x hx
  simp only [List.mem_cons, List.not_mem_nil, or_false] at hx
  rcases hx with rfl | rfl | rfl | rfl | rfl | rfl <;> simp <;> omega

end Go.G

namespace Go.G
open Go.Ab Go.Proofs Go.RowKit
set_option linter.unusedVariables false
set_option linter.unusedSimpArgs false
set_option maxRecDepth 100000

theorem N.boxed {M0 M : Store} {v : Value} {l : List UInt8} (h : N M0 M v l) (hl : 0 < l.length) : ∃ b c, v = .slice (some ⟨b, 0, none⟩) l.length c ∧ M0.n ≤ b ∧ b < M.n := by
  obtain ⟨h1, ⟨h0, _⟩ | ⟨b, cells, c, rfl, h2, h3, _⟩⟩ := h
  · omega
  · exact ⟨b, c, rfl, h2, M.lt_of_get h3⟩
theorem Nw.chB {s e M0 M M' v n cs} (h : Nw s e M0 M v n cs) {S : List Nat} (k : Ch S M M') (hS : ∀ b ∈ S, b < M0.n) : Nw s e M0 M' v n cs := by
  obtain ⟨h1, h | ⟨b, cells, c, rfl, h2, h3, h4⟩⟩ := h
  · exact ⟨h1, .inl h⟩
  · exact ⟨h1, .inr ⟨b, cells, c, rfl, h2, k.at h3 (fun hm => by have := hS b hm; omega), h4⟩⟩
/-- A byte of one's own slice is written, in a box that is known. -/
theorem N.putb {M0 M : Store} (hu : Up M0 M) {v : Value} {l : List UInt8} (h : N M0 M v l) {i : Nat} (hi : i < l.length) (k : IntKind) (x : UInt8) :
    ∃ p M', ixA 1 v (.int k (i : Int)) = some p ∧ ld 1 false p M = some (bv l[i]) ∧ st 1 p (bv x) M = some M' ∧ Up M0 M' ∧ N M0 M' v (l.set i x) ∧ ∃ b c, v = .slice (some ⟨b, 0, none⟩) l.length c ∧ Ch [b] M M' := by
  obtain ⟨q, eq, eld⟩ := By.at h.by (i := i) hi k
  obtain ⟨h1, ⟨h0, _⟩ | ⟨b, cells, c, rfl, h2, h3, h4, h5, h6⟩⟩ := h
  · omega
  · have hob : Ob M b cells Ty.uint8 := h3
    rw [Nat.mul_one] at h4 h5
    have eq' : ixA 1 (.slice (some ⟨b, 0, none⟩) l.length c) (.int k (i : Int)) = some (.pointer (some ⟨b, 0 + i * 1, none⟩)) := by
      simp only [ixA]; rw [if_pos ⟨by omega, by omega, trivial⟩]; simp
    rw [eq'] at eq; injection eq with eq; subst eq
    refine ⟨.pointer (some ⟨b, 0 + i * 1, none⟩), M.set b (some (.inl (cells.set i (bv x), Ty.uint8, true))), eq', eld, ?_, hu.ch (Ch.setO hob _) (fun c hc => by simp at hc; omega), ⟨by simp, .inr ⟨b, cells.set i (bv x), c, by rw [List.length_set], h2, hob.setSt _, by rw [List.length_set, List.length_set]; omega, ?_, by rw [List.length_set]; exact h6⟩⟩, b, c, rfl, Ch.setO hob _⟩
    · rw [show 0 + i * 1 = i by omega]; exact hob.st (by omega) rfl rfl
    · rw [List.length_set, Nat.mul_one, List.take_set, h5, List.map_set]
theorem inc8 (a : UInt8) (K : Value → Prop) : OP (binI .add (bv a) (.int .u8 1)) K = K (bv (UInt8.ofNat (a.toNat + 1))) := by
  unfold bv
  rw [e_add]
  have : IntKind.wrap .u8 ((a.toNat : Int) + 1) = ((UInt8.ofNat (a.toNat + 1)).toNat : Int) := by
    rw [← wrap_u8]; rfl
  rw [this]

theorem Own_loop1 {Mb M1 : Store} {x0 x1 x2 x3 x9 x10 x13 u w : Value} {y : List UInt8} {Q : Value → Store → Prop} : ∀ (d i : Nat) (M : Store) (l : List UInt8), d + i = l.length → l.length ≤ 2 ^ 26 → Up Mb M → N Mb M u l →
    (∀ b c, u = .slice (some ⟨b, 0, none⟩) l.length c → 0 < l.length → b < M1.n) → N M1 M w y → (∀ M', Up Mb M' → N M1 M' w y → P_fettlelaw11_ArtiOwn_2 x0 x1 x2 x3 x9 x10 w x13 M' Q) →
    P_fettlelaw11_ArtiOwn_1 x0 x1 x2 x3 x9 x10 u w x13 (.int .i64 (l.length : Int)) (.int .i64 (i : Int)) M Q := by
  intro d
  induction d with
  | zero =>
    intro i M l hi hle hu h hb hw hQ
    apply T_fettlelaw11_ArtiOwn_1
    unfold S_fettlelaw11_ArtiOwn_1
    rw [e_lss, BR_dec, if_neg (by omega)]
    exact hQ M hu hw
  | succ d ih =>
    intro i M l hi hle hu h hb hw hQ
    apply T_fettlelaw11_ArtiOwn_1
    unfold S_fettlelaw11_ArtiOwn_1
    obtain ⟨p, M', e1, e2, e3, hu', h', b, c, hv, hc⟩ := N.putb hu h (i := i) (by omega) .i64 (UInt8.ofNat ((l[i]'(by omega)).toNat + 1))
    rw [e_lss, BR_dec, if_pos (by omega), e1, OP_some, e2, OP_some, inc8, OP_some, e3, OP_some, e_add, w64 (by omega) (by omega)]
    have hbl := hb b c hv (by omega)
    have := ih (i + 1) M' (l.set i (UInt8.ofNat ((l[i]'(by omega)).toNat + 1))) (by rw [List.length_set]; omega) (by rw [List.length_set]; omega) hu' h' (fun b c h1 h2 => hb b c (by rw [List.length_set] at h1; exact h1) (by rw [List.length_set] at h2; exact h2))
      (Nw.chB hw hc fun z hz => by simp at hz; omega) hQ
    rw [List.length_set] at this
    exact this

theorem Own_loop2 {Mb : Store} {x0 x1 x2 x3 x9 x10 x13 w : Value} {Q : Value → Store → Prop} : ∀ (d i : Nat) (M : Store) (l : List UInt8), d + i = l.length → l.length ≤ 2 ^ 26 → Up Mb M → N Mb M w l →
    (∀ M', Up Mb M' → P_fettlelaw11_ArtiOwn_4 x0 x1 x2 x3 x9 x10 x13 M' Q) →
    P_fettlelaw11_ArtiOwn_3 x0 x1 x2 x3 x9 x10 w x13 (.int .i64 (l.length : Int)) (.int .i64 (i : Int)) M Q := by
  intro d
  induction d with
  | zero =>
    intro i M l hi hle hu h hQ
    apply T_fettlelaw11_ArtiOwn_3
    unfold S_fettlelaw11_ArtiOwn_3
    rw [e_lss, BR_dec, if_neg (by omega)]
    exact hQ M hu
  | succ d ih =>
    intro i M l hi hle hu h hQ
    apply T_fettlelaw11_ArtiOwn_3
    unfold S_fettlelaw11_ArtiOwn_3
    obtain ⟨p, M', e1, e2, e3, hu', h', b, c, hv, hc⟩ := N.putb hu h (i := i) (by omega) .i64 (UInt8.ofNat ((l[i]'(by omega)).toNat + 1))
    rw [e_lss, BR_dec, if_pos (by omega), e1, OP_some, e2, OP_some, inc8, OP_some, e3, OP_some, e_add, w64 (by omega) (by omega)]
    have := ih (i + 1) M' (l.set i (UInt8.ofNat ((l[i]'(by omega)).toNat + 1))) (by rw [List.length_set]; omega) (by rw [List.length_set]; omega) hu' h' hQ
    rw [List.length_set] at this
    exact this

theorem ArtiOwn_ok {M : Store} {v0 v1 v2 v3 : Value} {x y x' y' : List UInt8} (hx : B M v0 x) (hy : B M v1 y) (hx' : B M v2 x') (hy' : B M v3 y') (l0 : x.length ≤ 2 ^ 22) (l1 : y.length ≤ 2 ^ 22) (l2 : x'.length ≤ 2 ^ 22) (l3 : y'.length ≤ 2 ^ 22) :
    R F.fettlelaw11_ArtiOwn #[v0, v1, v2, v3] M fun v M' => v = .bool true := by
  refine R.cps fun Q hQ => ?_
  apply T_fettlelaw11_ArtiOwn
  unfold S_fettlelaw11_ArtiOwn
  have hend : ∀ M1, R F.fettlelaw11_awake #[] M1 fun t31 M2 => NTs [t31] ∧ Q t31 M2 := by
    intro M1
    refine (awake11_ok M1).mono fun v M2 ⟨hu2, hv⟩ => ?_
    subst hv; exact ⟨rfl, hQ _ _ rfl⟩
  rw [hx.lenV, OP_some, hy.lenV, OP_some, e_add, w64 (by omega) (by omega), hx'.lenV, OP_some, e_add, w64 (by omega) (by omega), hy'.lenV, OP_some, e_add, w64 (by omega) (by omega), e_gtr, BR_dec]
  split
  · exact hend _
  rw [OP_some, e_gtr, BR_dec]
  split
  · exact hend _
  rw [OP_some, e_gtr, BR_dec]
  split
  · exact hend _
  rename_i g1 g2 g3
  refine (Make_ok hx hy (by omega) (by omega)).mono fun v4 M4 ⟨hu4, h4⟩ => ?_
  have hml := makeF_length x y
  rw [cvBS_ok h4.by, OP_some]
  refine (Open_ok h4.by (by omega)).mono fun r5 M5 ⟨hu5, ho5⟩ => ?_
  rw [openF_make _ _ (by omega) (by omega)] at ho5
  obtain ⟨u, w, M5', hr5, hu1, hu2, hw, n1, n2⟩ := ho5
  subst hr5
  have hu1 : N M4 M5' u x := hu1
  have hu2 : N M4 M5 u x := hu2
  have hw : N M5' M5 w y := hw
  rw [tup3_0, OP_some, tup3_1, OP_some, tup3_2, OP_some, hu2.sl.lenV, OP_some]
  refine Own_loop1 (Mb := M4) (M1 := M5') (y := y) x.length 0 M5 x rfl (by omega) hu5 hu2 (fun b c hv hl => ?_) hw fun M6 hu6 hw6 => ?_
  · obtain ⟨b', c', hv', _, hlt⟩ := N.boxed hu1 hl
    rw [hv] at hv'
    injection hv' with hv'
    injection hv' with hv'
    injection hv' with hv'
    omega
  apply T_fettlelaw11_ArtiOwn_2
  unfold S_fettlelaw11_ArtiOwn_2
  rw [hw6.sl.lenV, OP_some]
  refine Own_loop2 (Mb := M4) y.length 0 M6 y rfl (by omega) hu6 (Nw.base hw6 n1) fun M7 hu7 => ?_
  apply T_fettlelaw11_ArtiOwn_4
  unfold S_fettlelaw11_ArtiOwn_4
  have h47 : B M7 v4 (makeF x y) := Sl.up h4.by hu7
  have uM7 : Up M M7 := hu4.trans hu7
  rw [BR_bool, if_pos (by simp), cvBS_ok h47, OP_some, str_eql, BR_dec, if_pos rfl]
  refine (Make_ok (Sl.up hx' uM7) (Sl.up hy' uM7) (by omega) (by omega)).mono fun v8 M8 ⟨hu8, h8⟩ => ?_
  have uM8 : Up M M8 := uM7.trans hu8
  refine ⟨hu8.tdj _ _, ?_⟩
  have hinj := makeF_inj (x := x') (y := y') (x' := x) (y' := y) (by omega) (by omega) (by omega) (by omega)
  have hend2 : ∀ {bs Ns : List Nat} {i : Nat}, R F.fettlelaw11_awake #[] M8 fun t31 M2 => TDx bs Ns i M8 M2 ∧ NTs [t31] ∧ Q t31 M2 := by
    intro bs Ns i
    refine (awake11_ok M8).mono fun v M2 ⟨hu2, hv⟩ => ?_
    subst hv; exact ⟨hu2.tdx _ _ _, rfl, hQ _ _ rfl⟩
  rw [cvBS_ok h8.by, OP_some, str_eql, cvBS_ok (Sl.up hx uM8), OP_some, cvBS_ok (Sl.up hx' uM8), OP_some, str_eql]
  have hB3 : ∀ (p : Prop) [Decidable p] (A B C : Prop), BR3 (.bool (decide p)) A B C = if p then A else B := by
    intro p _ A B C
    by_cases hp : p <;> simp [hp, BR3]
  rw [hB3]
  split
  · rename_i hxx
    rw [cvBS_ok (Sl.up hy uM8), OP_some, cvBS_ok (Sl.up hy' uM8), OP_some, str_eql, abin_bool_eq, OP_some, BR_bool, if_pos]
    · exact hend2
    · rw [beq_iff_eq, decide_eq_decide, hinj]
      constructor
      · rintro ⟨_, rfl⟩; rfl
      · rintro rfl; exact ⟨hxx.symm, rfl⟩
  · rename_i hxx
    rw [abin_bool_eq, OP_some, BR_bool, if_pos]
    · exact hend2
    · rw [beq_iff_eq, decide_eq_false_iff_not, hinj]
      rintro ⟨rfl, _⟩; exact hxx rfl

end Go.G
