/- Layer 5, the program: a line's words. -/
import Derived.Test.YtdhdbdngjbbgiaaDoorPGB
import Derived.Test.YtdhdbdngjbbgiaaDoorPS5
import Derived.Test.YtdhdbdngjbbgiaaDoorPQ5b
namespace Go.G
open Go.Ab Go.Proofs Go.RowKit
set_option linter.unusedVariables false
set_option linter.unusedSimpArgs false
set_option maxRecDepth 100000

/-! ## bytes told -/
theorem SIxB_ok {M : Store} {l : List UInt8} {c : UInt8} {Q : Value → Store → Prop} (hQ : Q (iv (Lib.indexByte l c)) M) : R F.strings_IndexByte #[sv l, bv c] M Q := by
  apply T_strings_IndexByte
  unfold S_strings_IndexByte
  exact IxB_ok ⟨rfl, hQ⟩
theorem blank_ok {M : Store} {c : UInt8} {Q : Value → Store → Prop} (hQ : Q (tv (blankB c)) M) : R F.line_blank #[bv c] M Q := by
  apply T_line_blank
  unfold S_line_blank
  rw [bv_eqI (d := 32) (n := 32) rfl, BR_dec]
  split
  · rename_i h
    subst h
    exact ⟨rfl, hQ⟩
  · rename_i h
    rw [bv_eqI (d := 9) (n := 9) rfl]
    have e : blankB c = decide (c = 9) := by
      have : (c == 32) = false := by simpa using h
      unfold blankB
      rw [this, Bool.false_or]; rfl
    rw [e] at hQ
    exact ⟨rfl, hQ⟩
theorem plain_ok {M : Store} {c : UInt8} {Q : Value → Store → Prop} (hQ : Q (tv (plainB c)) M) : R F.line_plain #[bv c] M Q := by
  apply T_line_plain
  unfold S_line_plain
  rw [bv_geI (d := 32) (n := 32) rfl, BR_dec]
  split
  · rename_i h
    rw [bv_leI (d := 126) (n := 126) rfl]
    have e : plainB c = decide (c ≤ 126) := by unfold plainB; rw [decide_eq_true h, Bool.true_and]
    rw [e] at hQ
    exact ⟨rfl, hQ⟩
  · rename_i h
    have e : plainB c = false := by unfold plainB; rw [decide_eq_false h, Bool.false_and]
    rw [e] at hQ
    exact ⟨rfl, hQ⟩
theorem ixb_ge (l : List UInt8) (c : UInt8) : decide (Lib.indexByte l c ≥ 0) = decide (c ∈ l) := by
  rcases piece_or c l with h | ⟨s, r, rfl, h⟩
  · rw [ixb_none h]
    have : ¬ c ∈ l := fun hm => h c hm rfl
    rw [decide_eq_false this]; rfl
  · rw [ixb_at s r c h]
    have : c ∈ s ++ c :: r := by simp
    rw [decide_eq_true this]; simp
theorem sign_ix (c : UInt8) : decide (Lib.indexByte [58, 124, 61, 59, 44] c ≥ 0) = signB c := by
  rw [ixb_ge]
  unfold signB
  by_cases h1 : c = 58 <;> by_cases h2 : c = 124 <;> by_cases h3 : c = 61 <;> by_cases h4 : c = 59 <;> by_cases h5 : c = 44 <;> simp [h1, h2, h3, h4, h5]
theorem sign_ok {M : Store} {c : UInt8} {Q : Value → Store → Prop} (hQ : Q (tv (signB c)) M) : R F.line_sign #[bv c] M Q := by
  apply T_line_sign
  unfold S_line_sign
  refine SIxB_ok (l := [58, 124, 61, 59, 44]) ?_
  rw [e_geq, sign_ix]
  exact ⟨rfl, hQ⟩
theorem loose_ok {M : Store} {c : UInt8} {Q : Value → Store → Prop} (hQ : Q (tv (looseB c)) M) : R F.line_loose #[bv c] M Q := by
  apply T_line_loose
  unfold S_line_loose
  rw [bv_gtI (d := 32) (n := 32) rfl, BR_dec]
  split
  · rename_i h1
    rw [bv_leI (d := 126) (n := 126) rfl, BR_dec]
    split
    · rename_i h2
      rw [bv_neI (d := 34) (n := 34) rfl, BR_dec]
      split
      · rename_i h3
        refine sign_ok ?_
        rw [e_not]
        have e : looseB c = !signB c := by
          unfold looseB
          rw [decide_eq_true h1, decide_eq_true h2]
          have : (c != 34) = true := by simpa using h3
          rw [this]; simp
        rw [e] at hQ
        exact ⟨rfl, hQ⟩
      · rename_i h3
        have e : looseB c = false := by
          unfold looseB
          have : (c != 34) = false := by simpa using h3
          rw [this]; simp
        rw [e] at hQ
        exact ⟨rfl, hQ⟩
    · rename_i h2
      have e : looseB c = false := by unfold looseB; rw [decide_eq_false h2]; simp
      rw [e] at hQ
      exact ⟨rfl, hQ⟩
  · rename_i h1
    have e : looseB c = false := by unfold looseB; rw [decide_eq_false h1]; simp
    rw [e] at hQ
    exact ⟨rfl, hQ⟩

/-! ## words and faults as values -/
def wcs (w : Wd) : List Value := [sv w.1, iv (w.2.1 : Int), iv (w.2.2.1 : Int), tv w.2.2.2]
def wv (w : Wd) : Value := .agg (wcs w).toArray
def fcs (f : Ft) : List Value := [iv (f.1 : Int), iv (f.2.1 : Int), iv (f.2.2 : Int)]
def fv (f : Ft) : Value := .agg (fcs f).toArray
def wv0 : Wd := ([], 0, 0, false)
def fv0 : Ft := (0, 0, 0)
theorem wcs_len (w : Wd) : (wcs w).length = 4 := rfl
theorem wcs_one (w : Wd) : (wcs w).all (·.oneCell') = true := by obtain ⟨a, b, c, d⟩ := w; kernel_rfl
theorem fcs_one (f : Ft) : (fcs f).all (·.oneCell') = true := by obtain ⟨a, b, c⟩ := f; kernel_rfl
theorem ldF {M : Store} {b : Nat} {f : Ft} {T : TypeId} (h : Ob M b (fcs f) T) : ld 3 true (.pointer (some ⟨b, 0, none⟩)) M = some (fv f) := h.ldA rfl
theorem ldW {M : Store} {b : Nat} {w : Wd} {T : TypeId} (h : Ob M b (wcs w) T) : ld 4 true (.pointer (some ⟨b, 0, none⟩)) M = some (wv w) := h.ldA rfl
theorem bS_f0 (K : Value → Prop) : OP (bldS #[(.int .i64 0), (.int .i64 0), (.int .i64 0)] [(0, 1), (1, 1), (2, 1)] []) K = K (fv fv0) := by kernel_rfl
theorem bS_f (a b c : Int) (K : Value → Prop) : OP (bldS #[(.int .i64 0), (.int .i64 0), (.int .i64 0)] [(0, 1), (1, 1), (2, 1)] [(0, .int .i64 a), (1, .int .i64 b), (2, .int .i64 c)]) K = K (.agg #[.int .i64 a, .int .i64 b, .int .i64 c]) := by kernel_rfl
theorem bS_w0 (K : Value → Prop) : OP (bldS #[(.string ⟨#[]⟩), (.int .i64 0), (.int .i64 0), (.bool false)] [(0, 1), (1, 1), (2, 1), (3, 1)] []) K = K (wv wv0) := by kernel_rfl
theorem bS_w (a : ByteArray) (b c : Int) (d : Bool) (K : Value → Prop) : OP (bldS #[(.string ⟨#[]⟩), (.int .i64 0), (.int .i64 0), (.bool false)] [(0, 1), (1, 1), (2, 1), (3, 1)] [(0, .string a), (1, .int .i64 b), (2, .int .i64 c), (3, .bool d)]) K = K (.agg #[.string a, .int .i64 b, .int .i64 c, .bool d]) := by kernel_rfl
theorem bS_s (a : ByteArray) (b : Int) (K : Value → Prop) : OP (bldS #[(.string ⟨#[]⟩), (.int .i64 0), (.int .i64 0)] [(0, 1), (1, 1), (2, 1)] [(0, .string a), (1, .int .i64 b)]) K = K (.agg #[.string a, .int .i64 b, .int .i64 0]) := by kernel_rfl

/-- Where one looks through a line. -/
abbrev Sc (M : Store) (b : Nat) (s : List UInt8) (line at_ : Nat) : Prop := Ob M b [sv s, iv (line : Int), iv (at_ : Int)] Ty.line_scan

theorem fault_ok {M : Store} {b : Nat} {s : List UInt8} {line at_ k p : Nat} (h : Sc M b s line at_) (hp : p ≤ 2 ^ 40) {Q : Value → Store → Prop} (hQ : ∀ M', Up M M' → Q (fv (k, line, p + 1)) M') :
    R F.line_scan_fault #[.pointer (some ⟨b, 0, none⟩), iv (k : Int), iv (p : Int)] M Q := by
  apply T_line_scan_fault
  unfold S_line_scan_fault
  refine s_new fun M1 u1 o1 n1 => ?_
  rw [e_nilc, fad0, ((h.up u1).l3).2.1, add1_n _ (by omega), bS_f]
  exact one_res (v2 := fcs (k, line, p + 1)) u1 o1 (Nat.le_refl _) rfl rfl (fcs_one _) fun M' hu' _ _ => hQ M' hu'
theorem word_ok {M : Store} {b : Nat} {s : List UInt8} {line at_ p : Nat} (h : Sc M b s line at_) (hp : p ≤ 2 ^ 40) (x : List UInt8) (q : Bool) {Q : Value → Store → Prop} (hQ : ∀ M', Up M M' → Q (wv (x, line, p + 1, q)) M') :
    R F.line_scan_word #[.pointer (some ⟨b, 0, none⟩), sv x, iv (p : Int), tv q] M Q := by
  apply T_line_scan_word
  unfold S_line_scan_word
  refine s_new fun M1 u1 o1 n1 => ?_
  rw [e_nilc, fad0, ((h.up u1).l3).2.1, add1_n _ (by omega), bS_w]
  exact one_res (v2 := wcs (x, line, p + 1, q)) u1 o1 (Nat.le_refl _) rfl rfl (wcs_one _) fun M' hu' _ _ => hQ M' hu'

/-- What looking at the next word comes to. -/
def NextR (b : Nat) (s : List UInt8) (line at_ : Nat) (r : Value) (M' : Store) : Sum Ft (Wd × Nat) → Prop
  | .inl f => r = .tuple #[wv wv0, fv f]
  | .inr (w, n) => r = .tuple #[wv w, fv fv0] ∧ Sc M' b s line (at_ + n)

theorem firstBad_at {x : List UInt8} : ∀ (i : Nat) (h : i < x.length), (∀ j (hj : j < i), plainB (x[j]'(by omega)) = true) → plainB x[i] = false → firstBad x = some i := by
  intro i h h1 h2
  unfold firstBad
  rw [List.findIdx?_eq_some_iff_getElem]
  exact ⟨h, by simp [h2], fun j hj => by simp [h1 j hj]⟩
theorem firstBad_none {x : List UInt8} (h : ∀ j (hj : j < x.length), plainB x[j] = true) : firstBad x = none := by
  unfold firstBad
  rw [List.findIdx?_eq_none_iff]
  intro d hd
  obtain ⟨j, hj, rfl⟩ := List.getElem_of_mem hd
  simp [h j hj]

section
variable {M0 : Store} {b b2 b3 : Nat} {s : List UInt8} {line at_ : Nat} {x : List UInt8}
theorem quote_loop (hs : s.length ≤ 2 ^ 30) (hat : at_ + x.length + 2 ≤ s.length) (hb2 : M0.n ≤ b2) (hb3 : M0.n ≤ b3) (hne : b2 ≠ b3) (hbb : b < M0.n) {Q : Value → Store → Prop}
    (hQ : ∀ r M', Ch [b] M0 M' → NextR b s line at_ r M' (match firstBad x with
      | some k => .inl (1, line, at_ + 1 + 1 + k)
      | none => .inr ((x, line, at_ + 1, true), x.length + 2)) → Q r M') :
    ∀ (d i : Nat) (M : Store), d + i = x.length → Ch [b] M0 M → Sc M b s line at_ → Ob M b2 (wcs wv0) Ty.api_Word → Ob M b3 (fcs fv0) Ty.api_Fault → (∀ j (hj : j < i) (hx : j < x.length), plainB x[j] = true) →
      P_line_scan_quote_1 (.pointer (some ⟨b, 0, none⟩)) (.pointer (some ⟨b2, 0, none⟩)) (.pointer (some ⟨b3, 0, none⟩)) (iv (at_ : Int)) (iv (x.length : Int)) (sv x) (iv (x.length : Int)) (iv (i : Int)) M Q := by
  intro d
  induction d with
  | zero =>
    intro i M hi hu hsc o2 o3 hp
    apply T_line_scan_quote_1
    unfold S_line_scan_quote_1
    rw [lss_n, BR_dec, if_neg (by omega)]
    apply T_line_scan_quote_3
    unfold S_line_scan_quote_3
    rw [add_n _ _ (by omega), add_l 2 2 rfl (by omega), e_nilc, fad0]
    have hbn := hsc.lt
    refine s_st1 (i := 2) hsc (by simp) (cells_iv _) (oc_iv _) fun M1 c1 o1 n1 => ?_
    have hsc1 : Sc M1 b s line (at_ + x.length + 2) := o1
    have hn0 := hu.n
    have hb2' : b2 ≠ b := by omega
    have hb3' : b3 ≠ b := by omega
    refine word_ok hsc1 (by omega) x true fun M2 u2 => ?_
    rw [bS_f0]
    refine two_res (v2 := wcs (x, line, at_ + 1, true)) (v3 := fcs fv0) ((hu.trans c1).up u2) ((o2.fr c1 (by simpa using hb2')).up u2) ((o3.fr c1 (by simpa using hb3')).up u2) hne hb2 hb3 rfl rfl rfl rfl (wcs_one _) (fcs_one _) fun M' hu' hc' hn' => ?_
    refine hQ _ _ hu' ?_
    rw [firstBad_none fun j hj => hp j (by omega) hj]
    exact ⟨rfl, (hsc1.up u2).fr hc' (by simp; omega)⟩
  | succ d ih =>
    intro i M hi hu hsc o2 o3 hp
    apply T_line_scan_quote_1
    unfold S_line_scan_quote_1
    rw [lss_n, BR_dec, if_pos (by omega)]
    apply T_line_scan_quote_2
    unfold S_line_scan_quote_2
    rw [bv_at x i (by omega)]
    refine plain_ok ?_
    rw [e_not, BR_bool]
    split
    · rename_i hbad
      have hbad : plainB (x[i]'(by omega)) = false := by simpa using hbad
      rw [bS_w0, add1_n _ (by omega), add_n _ _ (by omega)]
      refine fault_ok (k := 1) hsc (by omega) fun M2 u2 => ?_
      refine two_res (v2 := wcs wv0) (v3 := fcs (1, line, at_ + 1 + i + 1)) (hu.up u2) (o2.up u2) (o3.up u2) hne hb2 hb3 rfl rfl rfl rfl (wcs_one _) (fcs_one _) fun M' hu' hc' hn' => ?_
      refine hQ _ _ hu' ?_
      rw [firstBad_at i (by omega) (fun j hj => hp j hj (by omega)) hbad]
      show Value.tuple #[wv wv0, fv (1, line, at_ + 1 + i + 1)] = .tuple #[wv wv0, fv (1, line, at_ + 1 + 1 + i)]
      rw [show at_ + 1 + i + 1 = at_ + 1 + 1 + i by omega]
    · rename_i hok
      have hok : plainB (x[i]'(by omega)) = true := by simpa using hok
      rw [add1_n _ (by omega)]
      refine ih (i + 1) M (by omega) hu hsc o2 o3 fun j hj hx => ?_
      by_cases h : j = i
      · subst h; exact hok
      · exact hp j (by omega) hx
end

theorem quote_ok {M : Store} {b : Nat} {s : List UInt8} {line at_ : Nat} (h : Sc M b s line at_) (hs : s.length ≤ 2 ^ 30) {t : List UInt8} (ht : s.drop at_ = 34 :: t) (hn : ∀ c ∈ t, c ≠ 10) :
    R F.line_scan_quote #[.pointer (some ⟨b, 0, none⟩)] M fun r M' => Ch [b] M M' ∧ NextR b s line at_ r M' (tokC line (at_ + 1) 34 t) := by
  refine R.cps fun Q hQ => ?_
  apply T_line_scan_quote
  unfold S_line_scan_quote
  have hbn := h.lt
  have hlen : at_ + 1 + t.length = s.length := by
    have := congrArg List.length ht
    rw [List.length_drop, List.length_cons] at this; omega
  have hdr : s.drop (at_ + 1) = t := by rw [← List.drop_drop, ht]; rfl
  refine s_new fun M1 u1 o1 n1 => ?_
  refine s_new fun M2 u2 o2 n2 => ?_
  have u02 := u1.trans u2
  have o1 : Ob M2 M.n (wcs wv0) Ty.api_Word := o1.up u2
  have o2 : Ob M2 M1.n (fcs fv0) Ty.api_Fault := o2
  have h2 : Sc M2 b s line at_ := h.up u02
  have hnb2 : M.n ≤ M1.n := by omega
  simp only [e_nilc, fad0, h2.l3]
  rw [add1_n _ (by omega), sv_from (by omega), hdr]
  refine SIxB_ok (c := 34) ?_
  have hu : Ch [b] M M2 := (Up.any u02)
  rcases piece_or 34 t with hno | ⟨x, r, rfl, hx⟩
  · rw [ixb_none hno, e_lss, BR_dec, if_pos (by decide), bS_w0]
    refine fault_ok (k := 2) h2 (by omega) fun M3 u3 => ?_
    refine two_res (v2 := wcs wv0) (v3 := fcs (2, line, at_ + 1)) (hu.up u3) (o1.up u3) (o2.up u3) (by omega) (Nat.le_refl _) hnb2 rfl rfl rfl rfl (wcs_one _) (fcs_one _) fun M' hu' hc' hn' => ?_
    refine hQ _ _ ⟨hu', ?_⟩
    have hd : t.dropWhile inQ = [] := dropWhile_all t fun d hd => by
      simp only [inQ, Bool.and_eq_true, bne_iff_ne]
      exact ⟨hno d hd, hn d hd⟩
    unfold tokC
    rw [if_pos rfl, hd, if_neg (by simp)]
    exact rfl
  · rw [ixb_at x r 34 hx]
    have hxq : ∀ d ∈ x, inQ d = true := fun d hd => by
      simp only [inQ, Bool.and_eq_true, bne_iff_ne]
      exact ⟨hx d hd, hn d (by simp [hd])⟩
    have htw : (x ++ 34 :: r).takeWhile inQ = x := by
      rw [takeWhile_stop rfl]
      exact takeWhile_all x hxq
    have hdw : (x ++ 34 :: r).dropWhile inQ = 34 :: r := by
      rw [dropWhile_stop rfl, dropWhile_all x hxq]; rfl
    rw [List.length_append, List.length_cons] at hlen
    rw [e_lss, BR_dec, if_neg (by omega)]
    simp only [e_nilc, fad0, h2.l3]
    rw [add1_n _ (by omega), add1_n _ (by omega), add_n _ _ (by omega), sv_mid (by omega) (by omega)]
    have hmid : (s.take (at_ + 1 + x.length)).drop (at_ + 1) = x := by
      rw [List.drop_take, hdr, Nat.add_sub_cancel_left, List.take_left]
    rw [hmid, gtr_l 64 64 rfl, BR_dec]
    split
    · rename_i hlong
      rw [bS_w0]
      refine fault_ok (k := 3) h2 (by omega) fun M3 u3 => ?_
      refine two_res (v2 := wcs wv0) (v3 := fcs (3, line, at_ + 1)) (hu.up u3) (o1.up u3) (o2.up u3) (by omega) (Nat.le_refl _) hnb2 rfl rfl rfl rfl (wcs_one _) (fcs_one _) fun M' hu' hc' hn' => ?_
      refine hQ _ _ ⟨hu', ?_⟩
      unfold tokC
      rw [if_pos rfl, hdw, if_pos (show (34 :: r).head? = some 34 from rfl), htw, if_pos hlong]
      exact rfl
    · rename_i hlong
      rw [sv_len]
      refine quote_loop (M0 := M) hs (by omega) (Nat.le_refl _) hnb2 (by omega) hbn (fun r' M' hu' hr => ?_) x.length 0 M2 rfl hu h2 o1 o2 fun j hj => by omega
      refine hQ _ _ ⟨hu', ?_⟩
      unfold tokC
      rw [if_pos rfl, hdw, if_pos (show (34 :: r).head? = some 34 from rfl), htw, if_neg hlong]
      exact hr

/-! ## a word of other bytes -/
section
variable {M0 : Store} {b b2 b3 : Nat} {s : List UInt8} {line at_ : Nat} {t : List UInt8} {c : UInt8}
theorem tw_split {p : UInt8 → Bool} : ∀ (l : List UInt8) (i : Nat), (∀ j (hj : j < i) (h : j < l.length), p l[j] = true) → i ≤ l.length → (i = l.length ∨ ∃ h : i < l.length, p l[i] = false) → l.takeWhile p = l.take i
  | [], i, _, h, _ => by simp
  | c :: l, 0, _, _, h => by
    rcases h with h | ⟨_, h⟩
    · simp at h
    · rw [List.takeWhile_cons]; simp at h; simp [h]
  | c :: l, i + 1, hp, hl, h => by
    have hc : p c = true := hp 0 (by omega) (by simp)
    rw [List.takeWhile_cons, if_pos hc, List.take_succ_cons, tw_split l i (fun j hj hh => hp (j + 1) (by omega) (by simp; omega)) (by simpa using hl)]
    rcases h with h | ⟨h1, h2⟩
    · exact .inl (by simpa using h)
    · exact .inr ⟨by simpa using h1, by simpa using h2⟩
theorem run_end (hs : s.length ≤ 2 ^ 30) (ht : s.drop at_ = c :: t) (hq : c ≠ 34) (hsg : signB c = false) (hb2 : M0.n ≤ b2) (hb3 : M0.n ≤ b3) (hne : b2 ≠ b3) (hbb : b < M0.n) {Q : Value → Store → Prop}
    (hQ : ∀ r M', Ch [b] M0 M' → NextR b s line at_ r M' (tokC line (at_ + 1) c t) → Q r M') {i : Nat} {M : Store} (hi : at_ + i ≤ s.length) (hu : Ch [b] M0 M) (hsc : Sc M b s line (at_ + i)) (o2 : Ob M b2 (wcs wv0) Ty.api_Word) (o3 : Ob M b3 (fcs fv0) Ty.api_Fault)
    (htw : (c :: t).takeWhile looseB = (c :: t).take i) :
    P_line_scan_run_3 (.pointer (some ⟨b, 0, none⟩)) (.pointer (some ⟨b2, 0, none⟩)) (.pointer (some ⟨b3, 0, none⟩)) (iv (at_ : Int)) M Q := by
  apply T_line_scan_run_3
  unfold S_line_scan_run_3
  have hlen : at_ + (t.length + 1) = s.length := by
    have := congrArg List.length ht
    rw [List.length_drop, List.length_cons] at this; omega
  have htl : ((c :: t).take i).length = i := by rw [List.length_take, List.length_cons]; omega
  simp only [e_nilc, fad0, hsc.l3]
  rw [sub_n _ _ (by omega) (by omega), Nat.add_sub_cancel_left, eql_l 0 0 rfl, BR_dec]
  have hl0 : looseB c = false ↔ i = 0 := by
    rw [List.takeWhile_cons] at htw
    constructor
    · intro h
      rw [h] at htw
      have := congrArg List.length htw
      rw [htl] at this
      simpa using this.symm
    · rintro rfl
      cases h : looseB c with
      | false => rfl
      | true => rw [h] at htw; simp at htw
  split
  · rename_i h0
    rw [bS_w0]
    refine fault_ok (k := 1) hsc (by omega) fun M2 u2 => ?_
    refine two_res (v2 := wcs wv0) (v3 := fcs (1, line, at_ + 1)) (hu.up u2) (o2.up u2) (o3.up u2) hne hb2 hb3 rfl rfl rfl rfl (wcs_one _) (fcs_one _) fun M' hu' hc' hn' => ?_
    refine hQ _ _ hu' ?_
    unfold tokC
    rw [if_neg hq, if_neg (by rw [hsg]; decide), if_pos (hl0.2 h0)]
    exact rfl
  · rename_i h0
    rw [gtr_l 64 64 rfl, BR_dec]
    have hl1 : ¬ looseB c = false := fun h => h0 (hl0.1 h)
    split
    · rename_i hlong
      rw [bS_w0]
      refine fault_ok (k := 3) hsc (by omega) fun M2 u2 => ?_
      refine two_res (v2 := wcs wv0) (v3 := fcs (3, line, at_ + 1)) (hu.up u2) (o2.up u2) (o3.up u2) hne hb2 hb3 rfl rfl rfl rfl (wcs_one _) (fcs_one _) fun M' hu' hc' hn' => ?_
      refine hQ _ _ hu' ?_
      unfold tokC
      rw [if_neg hq, if_neg (by rw [hsg]; decide), if_neg hl1, htw, htl, if_pos hlong]
      exact rfl
    · rename_i hlong
      rw [sv_mid (by omega) (by omega)]
      have hmid : (s.take (at_ + i)).drop at_ = (c :: t).take i := by rw [List.drop_take, ht, Nat.add_sub_cancel_left]
      rw [hmid]
      refine word_ok hsc (by omega) _ false fun M2 u2 => ⟨u2.tdx _ _ _, ?_⟩
      rw [bS_f0]
      have hbn := hu.n
      have hbn := hu.n
      have hb2l := o2.lt
      have hb3l := o3.lt
      refine two_resD (Ns' := fun M8 => _) (v2 := wcs ((c :: t).take i, line, at_ + 1, false)) (v3 := fcs fv0) (hu.up u2) (o2.up u2) (o3.up u2) hne hb2 hb3 rfl rfl rfl rfl (wcs_one _) (fcs_one _) (by exact hb2l) (fun M8 => by exact hb3l) fun M' hu' hc' hn' => ?_
      refine hQ _ _ hu' ?_
      unfold tokC
      rw [if_neg hq, if_neg (by rw [hsg]; decide), if_neg hl1, htw, htl, if_neg hlong]
      exact ⟨rfl, (hsc.up u2).fr hc' (by simp; omega)⟩
theorem run_loop (hs : s.length ≤ 2 ^ 30) (ht : s.drop at_ = c :: t) (hq : c ≠ 34) (hsg : signB c = false) (hb2 : M0.n ≤ b2) (hb3 : M0.n ≤ b3) (hne : b2 ≠ b3) (hbb : b < M0.n) {Q : Value → Store → Prop}
    (hQ : ∀ r M', Ch [b] M0 M' → NextR b s line at_ r M' (tokC line (at_ + 1) c t) → Q r M') :
    ∀ (d i : Nat) (M : Store), d + (at_ + i) = s.length → Ch [b] M0 M → Sc M b s line (at_ + i) → Ob M b2 (wcs wv0) Ty.api_Word → Ob M b3 (fcs fv0) Ty.api_Fault → (∀ j (hj : j < i) (h : j < (c :: t).length), looseB (c :: t)[j] = true) →
    P_line_scan_run_1 (.pointer (some ⟨b, 0, none⟩)) (.pointer (some ⟨b2, 0, none⟩)) (.pointer (some ⟨b3, 0, none⟩)) (iv (at_ : Int)) M Q := by
  have hlen : at_ + (t.length + 1) = s.length := by
    have := congrArg List.length ht
    rw [List.length_drop, List.length_cons] at this; omega
  intro d
  induction d with
  | zero =>
    intro i M hi hu hsc o2 o3 hp
    apply T_line_scan_run_1
    unfold S_line_scan_run_1
    simp only [e_nilc, fad0, hsc.l3]
    rw [sv_len, lss_n, BR_dec, if_neg (by omega)]
    exact run_end hs ht hq hsg hb2 hb3 hne hbb hQ (by omega) hu hsc o2 o3 (tw_split _ i hp (by rw [List.length_cons]; omega) (.inl (by rw [List.length_cons]; omega)))
  | succ d ih =>
    intro i M hi hu hsc o2 o3 hp
    apply T_line_scan_run_1
    unfold S_line_scan_run_1
    simp only [e_nilc, fad0, hsc.l3]
    rw [sv_len, lss_n, BR_dec, if_pos (by omega)]
    have hil : i < (c :: t).length := by rw [List.length_cons]; omega
    have hel : s[at_ + i]'(by omega) = (c :: t)[i] := by
      have h1 : (s.drop at_)[i]? = (c :: t)[i]? := by rw [ht]
      rw [List.getElem?_drop, List.getElem?_eq_getElem (by omega), List.getElem?_eq_getElem hil] at h1
      exact Option.some.inj h1
    rw [bv_at s (at_ + i) (by omega), hel]
    refine loose_ok ⟨Up.tdx (Ch.refl _ _) _ _ _, ?_⟩
    rw [BR_bool]
    split
    · rename_i hl
      apply T_line_scan_run_2
      unfold S_line_scan_run_2
      simp only [e_nilc, fad0, hsc.l3]
      rw [add1_n _ (by omega)]
      have hbn := hu.n
      refine s_st1 (i := 2) hsc (by simp) (cells_iv _) (oc_iv _) fun M1 c1 o1 n1 => ?_
      refine ih (i + 1) M1 (by omega) (hu.trans c1) o1 (o2.fr c1 (by simp; omega)) (o3.fr c1 (by simp; omega)) fun j hj h => ?_
      by_cases e : j = i
      · subst e; exact hl
      · exact hp j (by omega) h
    · rename_i hl
      exact run_end hs ht hq hsg hb2 hb3 hne hbb hQ (by omega) hu hsc o2 o3 (tw_split _ i hp (by omega) (.inr ⟨hil, by simpa using hl⟩))
end

theorem run_ok {M : Store} {b : Nat} {s : List UInt8} {line at_ : Nat} (h : Sc M b s line at_) (hs : s.length ≤ 2 ^ 30) {c : UInt8} {t : List UInt8} (ht : s.drop at_ = c :: t) (hq : c ≠ 34) (hsg : signB c = false) :
    R F.line_scan_run #[.pointer (some ⟨b, 0, none⟩)] M fun r M' => Ch [b] M M' ∧ NextR b s line at_ r M' (tokC line (at_ + 1) c t) := by
  refine R.cps fun Q hQ => ?_
  apply T_line_scan_run
  unfold S_line_scan_run
  have hbn := h.lt
  have hlen : at_ + (t.length + 1) = s.length := by
    have := congrArg List.length ht
    rw [List.length_drop, List.length_cons] at this; omega
  refine s_new fun M1 u1 o1 n1 => ?_
  refine s_new fun M2 u2 o2 n2 => ?_
  have u02 := u1.trans u2
  have h2 : Sc M2 b s line at_ := h.up u02
  simp only [e_nilc, fad0, h2.l3]
  exact run_loop (M0 := M) hs ht hq hsg (Nat.le_refl _) (by omega) (by omega) hbn (fun r M' hu hr => hQ _ _ ⟨hu, hr⟩) (s.length - at_) 0 M2 (by omega) (Up.any u02) h2 (o1.up u2) o2 fun j hj => by omega

theorem next_ok {M : Store} {b : Nat} {s : List UInt8} {line at_ : Nat} (h : Sc M b s line at_) (hs : s.length ≤ 2 ^ 30) {c : UInt8} {t : List UInt8} (ht : s.drop at_ = c :: t) (hn : ∀ c ∈ t, c ≠ 10) :
    R F.line_scan_next #[.pointer (some ⟨b, 0, none⟩)] M fun r M' => Ch [b] M M' ∧ NextR b s line at_ r M' (tokC line (at_ + 1) c t) := by
  refine R.cps fun Q hQ => ?_
  apply T_line_scan_next
  unfold S_line_scan_next
  have hbn := h.lt
  have hlen : at_ + (t.length + 1) = s.length := by
    have := congrArg List.length ht
    rw [List.length_drop, List.length_cons] at this; omega
  refine s_new fun M1 u1 o1 n1 => ?_
  refine s_new fun M2 u2 o2 n2 => ?_
  have u02 := u1.trans u2
  have o1 : Ob M2 M.n (wcs wv0) Ty.api_Word := o1.up u2
  have o2 : Ob M2 M1.n (fcs fv0) Ty.api_Fault := o2
  have h2 : Sc M2 b s line at_ := h.up u02
  have hu : Ch [b] M M2 := (Up.any u02)
  have hnb : M.n ≠ M1.n := by omega
  have hnb2 : M.n ≤ M1.n := by omega
  have hel : s[at_]'(by omega) = c := by
    have h1 : (s.drop at_)[0]? = (c :: t)[0]? := by rw [ht]
    rw [List.getElem?_drop, Nat.add_zero, List.getElem?_eq_getElem (by omega)] at h1
    simpa using h1
  simp only [e_nilc, fad0, h2.l3]
  rw [bv_at s at_ (by omega), hel, bv_eqI (d := 34) (n := 34) rfl, BR_dec]
  have fin : ∀ (r : Value) (M3 : Store), Ch [b] M M3 → Ob M3 M.n (wcs wv0) Ty.api_Word → Ob M3 M1.n (fcs fv0) Ty.api_Fault → NextR b s line at_ r M3 (tokC line (at_ + 1) c t) →
      OP (tup r 0) fun t19 => OP (tup r 1) fun t20 => OP (st 4 (.pointer (some ⟨M.n, 0, none⟩)) t19 M3) fun M4 => OP (st 3 (.pointer (some ⟨M1.n, 0, none⟩)) t20 M4) fun M5 => OP (ld 4 true (.pointer (some ⟨M.n, 0, none⟩)) M5) fun r2 => OP (ld 3 true (.pointer (some ⟨M1.n, 0, none⟩)) M5) fun r3 => NTs [r2, r3] ∧ Q (.tuple #[r2, r3]) M5 := by
    intro r M3 hu3 o13 o23 hr
    cases hk : tokC line (at_ + 1) c t with
    | inl f =>
      rw [hk] at hr
      have hr : r = .tuple #[wv wv0, fv f] := hr
      subst hr
      rw [tp2_0, OP_some, tp2_1, OP_some]
      refine two_res (v2 := wcs wv0) (v3 := fcs f) hu3 o13 o23 hnb (Nat.le_refl _) hnb2 rfl rfl rfl rfl (wcs_one _) (fcs_one _) fun M' hu' hc' hn' => hQ _ _ ⟨hu', ?_⟩
      rw [hk]; exact rfl
    | inr p =>
      obtain ⟨w, n⟩ := p
      rw [hk] at hr
      obtain ⟨hr, hsc⟩ := hr
      subst hr
      rw [tp2_0, OP_some, tp2_1, OP_some]
      refine two_res (v2 := wcs w) (v3 := fcs fv0) hu3 o13 o23 hnb (Nat.le_refl _) hnb2 rfl rfl rfl rfl (wcs_one _) (fcs_one _) fun M' hu' hc' hn' => hQ _ _ ⟨hu', ?_⟩
      rw [hk]; exact ⟨rfl, hsc.fr hc' (by simp; omega)⟩
  split
  · rename_i hc
    subst hc
    refine (quote_ok h2 hs ht hn).mono fun r M3 ⟨hc3, hr⟩ => ?_
    exact fin r M3 (hu.trans hc3) (o1.fr hc3 (by simp; omega)) (o2.fr hc3 (by simp; omega)) hr
  · rename_i hc
    refine sign_ok ?_
    rw [BR_bool]
    split
    · rename_i hsg
      simp only [e_nilc, fad0, h2.l3]
      rw [add1_n _ (by omega)]
      refine s_st1 (i := 2) h2 (by simp) (cells_iv _) (oc_iv _) fun M3 c3 o3 n3 => ?_
      have h3 : Sc M3 b s line (at_ + 1) := o3
      rw [bl_bv]
      refine s_lit (s := 1) rfl fun M4 u4 hN o4 n4 => ?_
      have hby : B M4 (.slice (some ⟨M3.n, 0, none⟩) 1 1) [c] := hN.sl
      have h4 : Sc M4 b s line (at_ + 1) := h3.up u4
      rw [cvBS_ok hby, OP_some]
      simp only [e_nilc, fad0, h4.l3]
      rw [sub_l 1 1 rfl (by omega) (by omega), Nat.add_sub_cancel]
      refine word_ok (x := [c]) (q := false) h4 (by omega) fun M9 u9 => ⟨u9.tdx _ _ _, ?_⟩
      rw [bS_f0]
      have hu9 : Ch [b] M M9 := ((hu.trans c3).up u4).up u9
      have o19 := ((o1.fr c3 (by simp; omega)).up u4).up u9
      have o29 := ((o2.fr c3 (by simp; omega)).up u4).up u9
      have h21 := o1.lt
      have h22 := o2.lt
      refine two_resD (Ns' := fun M8 => _) (v2 := wcs ([c], line, at_ + 1, false)) (v3 := fcs fv0) hu9 o19 o29 hnb (Nat.le_refl _) hnb2 rfl rfl rfl rfl (wcs_one _) (fcs_one _) (by show M.n < M3.n; omega) (fun M8 => by show M1.n < M3.n; omega) fun M' hu' hc' hn' => ?_
      refine hQ _ _ ⟨hu', ?_⟩
      unfold tokC
      rw [if_neg hc, if_pos hsg]
      exact ⟨rfl, (h4.up u9).fr hc' (by simp; omega)⟩
    · rename_i hsg
      have hsg : signB c = false := by simpa using hsg
      refine (run_ok h2 hs ht hc hsg).mono fun r M3 ⟨hc3, hr⟩ => ?_
      exact fin r M3 (hu.trans hc3) (o1.fr hc3 (by simp; omega)) (o2.fr hc3 (by simp; omega)) hr
end Go.G
