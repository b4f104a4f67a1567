/- Layer 10: prints read, and what is made of them, by the program and by the document. -/
import Derived.Test.YtpacolplhcfamaaPY10a
import Derived.Test.YtpacolplhcfamaaPY10b
namespace Go.G
open Go.Ab Go.Proofs Go.RowKit
set_option linter.unusedVariables false
set_option linter.unusedSimpArgs false
set_option maxRecDepth 100000

theorem bEqual_ok {M : Store} {x y : Value} {l k : List UInt8} (hx : B M x l) (hy : B M y k) : R F.bytes_Equal #[x, y] M fun v M' => M' = M ∧ v = tv (decide (l = k)) := by
  apply T_bytes_Equal
  unfold S_bytes_Equal
  rw [cvBS_ok hx, OP_some, cvBS_ok hy, OP_some]
  show OP (binS .eql (sv l) (sv k)) _
  rw [sv_eq]
  exact ⟨rfl, rfl, rfl⟩
theorem N_keep {e : TypeId} (he : Ty.uint8 ≠ e) (M0 : Store) : ∀ M M' v x, N M0 M v x → Keep e M M' → N M0 M' v x := fun _ _ _ _ h k => Nw.keep h he k
theorem B_keep {e : TypeId} (he : Ty.uint8 ≠ e) : ∀ M M' v x, B M v x → Keep e M M' → B M' v x := fun _ _ _ _ h k => Sl.keep h he k
theorem N_up (M0 : Store) : ∀ M M' v x, N M0 M v x → Up M M' → N M0 M' v x := fun _ _ _ _ h k => Nw.up h k
theorem nls_bl {M0 M : Store} {v : Value} {ls : List (List UInt8)} (h : NLs (N M0) Ty.sl_uint8 M0 M v ls) : BL M v ls := by
  obtain ⟨vs, h1, h2⟩ := h
  exact ⟨vs, h1.sl, h2.mono fun v x h => h.by⟩
theorem nls_ntv {α : Type} {E : Store → Value → α → Prop} {e : TypeId} {M0 M : Store} {v : Value} {xs : List α} (h : NLs E e M0 M v xs) : ∃ a n c, v = .slice a n c := by
  obtain ⟨vs, h1, _⟩ := h
  obtain ⟨a, c, e⟩ := h1.sl.slice
  exact ⟨a, _, c, e⟩
theorem ins_of {j : Nat} {l l' x : List UInt8} {bad b' : Bool} {acc : List (List UInt8)} (h : rdBytes 256 l bad = if b' = true then none else some (x, l')) : (if bad = true then none else insO (j + 1) l acc) = if b' = true then none else insO j l' (acc ++ [x]) := by
  cases bad with
  | true =>
    have e : b' = true := by cases b' with
      | true => rfl
      | false => simp [rdBytes, rdNum] at h
    subst e; rfl
  | false =>
    rw [if_neg (by simp), insO, h]
    cases b' with
    | true => rfl
    | false => rfl
theorem rd_bad {top : Nat} {l l1 x : List UInt8} {b1 : Bool} (h : rdBytes top l false = if b1 = true then none else some (x, l1)) {n : Nat} {l2 : List UInt8} {b2 : Bool} (h2 : rdNum 8 l1 b1 = if b2 = true then none else some (n, l2)) (tt : Nat) :
    prntO top tt l = (if b2 = true then none else insO n l2 []).bind fun ins => if b1 = true then none else (actO tt x).bind fun k => some (k, ins) := by
  unfold prntO
  rw [h]
  cases b1 with
  | true =>
    have e : b2 = true := by cases b2 with
      | true => rfl
      | false => simp [rdNum] at h2
    subst e; rfl
  | false =>
    rw [if_neg (by simp), Option.bind_some]
    simp only
    rw [h2]
    cases b2 with
    | true => rfl
    | false => rfl

section
variable {M0 : Store} {b : Nat} {x0 x6 x7 : Value} {accD : List Dw} {oi : Option (List (List UInt8))} {Q : Value → Store → Prop}
theorem pins_loop (hb : M0.n ≤ b) (hQ : ∀ x8 M ins bad l, Up M0 M → Rd Ty.code_Reader M b l bad → NLs (N M0) Ty.sl_uint8 M0 M x8 ins → NDS M0 M x6 accD → (if (!bad && l.isEmpty) = true then some ins else none) = oi → P_prnt_Parse_2 x0 (pt b) x6 x7 x8 M Q) {m : Nat} (hm : m ≤ 8) :
    ∀ (j i : Nat) (l : List UInt8) (bad : Bool) (ins : List (List UInt8)) (x8 : Value) (M : Store), j + i = m → Up M0 M → Rd Ty.code_Reader M b l bad → l.length ≤ 2 ^ 24 → NLs (N M0) Ty.sl_uint8 M0 M x8 ins → ins.length = i → NDS M0 M x6 accD →
      (if bad = true then none else insO j l ins) = oi → P_prnt_Parse_1 x0 (pt b) x6 x7 x8 (iv (m : Int)) (iv (i : Int)) M Q := by
  intro j
  induction j with
  | zero =>
    intro i l bad ins x8 M hi hu hR hl hN hal hD ho
    apply T_prnt_Parse_1
    unfold S_prnt_Parse_1
    rw [lss_n, BR_dec, if_neg (by omega)]
    refine hQ x8 M ins bad l hu hR hN hD ?_
    rw [← ho]
    cases bad <;> simp [insO]
  | succ j ih =>
    intro i l bad ins x8 M hi hu hR hl hN hal hD ho
    apply T_prnt_Parse_1
    unfold S_prnt_Parse_1
    rw [lss_n, BR_dec, if_pos (by omega)]
    refine (pBytes (top := 256) hR (by omega) hl).mono fun v1 M1 ⟨c1, x, l1, b1, lx, len1, hx, R1, h1⟩ => ?_
    have u1 : Up M0 M1 := hu.ch c1 (by simpa using hb)
    have hx0 : N M0 M1 v1 x := Nw.base hx hu.n
    obtain ⟨a, c, rfl⟩ := hx.sl.slice
    rw [bl_sl1, LT_eq]
    have hN1 : NLs (N M0) Ty.sl_uint8 M0 M1 x8 ins := NLs.keep (N_keep ne_rd M0) hN ne_sl_rd (hR.chk c1)
    obtain ⟨v', M', e1, hu', hN', hk⟩ := NLs.app1 (x := x) (N_keep ne_u8_sl M0) u1 hN1 hx0 (by omega)
    rw [e1, OP2_some, add1_n _ (by omega)]
    refine ih (i + 1) l1 b1 (ins ++ [x]) v' M' (by omega) hu' (R1.keep ne_rd_sl ne_u8_sl hk) (by omega) hN' (by simp [hal]) (Nw.keep (Nw.keep hD ne_do_rd (hR.chk c1)) ne_do_sl hk) ?_
    rw [← ho]; exact (ins_of h1).symm
end
/-- What a print read comes to. -/
def ParsR (M0 M : Store) (r : Value) : Option (List Dw × List (List UInt8)) → Prop
  | none => r = .tuple #[.slice none 0 0, .slice none 0 0, .bool false]
  | some p => ∃ w u, r = .tuple #[w, u, .bool true] ∧ NDS M0 M w p.1 ∧ NLs (N M0) Ty.sl_uint8 M0 M u p.2
theorem tp3b (a c : Value) (ok : Bool) : (∀ K : Value → Prop, OP (tup (.tuple #[a, c, .bool ok]) 0) K = K a) ∧ (∀ K : Value → Prop, OP (tup (.tuple #[a, c, .bool ok]) 1) K = K c) ∧ (∀ K : Value → Prop, OP (tup (.tuple #[a, c, .bool ok]) 2) K = K (.bool ok)) := tp3 a c (.bool ok)
theorem PParse_ok {M : Store} {v : Value} {l : List UInt8} (h : B M v l) (hl : l.length ≤ 2 ^ 24) : R F.prnt_Parse #[v] M fun r M' => Up M M' ∧ ParsR M M' r (prntO 4000 256 l) := by
  refine R.cps fun Q hQ => ?_
  apply T_prnt_Parse
  unfold S_prnt_Parse
  refine (Read_ok h hl).mono fun r M1 ⟨u1, b, e, hb, hR⟩ => ?_
  subst e
  refine (pBytes (top := 4000) hR (by omega) hl).mono fun v2 M2 ⟨c2, x, l2, b2, lx, len2, hx, R2, h2⟩ => ?_
  have u2 : Up M M2 := u1.ch c2 (by simpa using hb)
  refine (action_ok hx.by (by omega)).mono fun r3 M3 ⟨u3, w, acc, e3, hD, hk⟩ => ?_
  subst e3
  rw [(tp2b w _).1, (tp2b w _).2]
  refine (pNum (top := 8) (R2.up u3) (by omega) (by omega)).mono fun v4 M4 ⟨c4, n, l4, b4, e4, t4, len4, R4, h4⟩ => ?_
  subst e4
  have u3' : Up M M3 := u2.trans u3
  have u4 : Up M M4 := u3'.ch c4 (by simpa using hb)
  have hD4 : NDS M M4 w acc := Nw.base (Nw.keep hD ne_do_rd ((R2.up u3).chk c4)) u2.n
  have hwhole := rd_bad h2 h4 256
  refine pins_loop (M0 := M) (oi := if b4 = true then none else insO n l4 []) hb (fun x8 M5 ins bad l5 u5 R5 hN hD5 hoi => ?_) t4 n 0 l4 b4 [] _ M4 rfl u4 R4 (by omega) NLs.nil rfl hD4 rfl
  rw [← hoi] at hwhole
  have none_ : ∀ M', Up M M' → prntO 4000 256 l = none → NTs [(.slice none 0 0), (.slice none 0 0), (.bool false)] ∧ Q (.tuple #[(.slice none 0 0), (.slice none 0 0), (.bool false)]) M' := fun M' hu e => ⟨rfl, hQ _ _ ⟨hu, by rw [e]; rfl⟩⟩
  apply T_prnt_Parse_2
  unfold S_prnt_Parse_2
  rw [e_not, BR_bool]
  split
  · rename_i hno
    refine none_ _ u5 ?_
    rw [hwhole]
    cases hact : actO 256 x with
    | some k => rw [hact] at hno; simp at hno
    | none =>
      cases (if (!bad && l5.isEmpty) = true then some ins else none : Option (List (List UInt8))) with
      | none => rfl
      | some i => cases b2 <;> rfl
  · rename_i hyes
    cases hact : actO 256 x with
    | none => rw [hact] at hyes; simp at hyes
    | some k =>
      obtain rfl := hk k hact
      refine (End_ok R5).mono fun v6 M6 ⟨e6, e7⟩ => ?_
      subst e6; subst e7
      rw [e_not, BR_bool]
      split
      · rename_i hend
        refine none_ _ u5 ?_
        rw [hwhole, if_neg (fun h => by rw [h] at hend; simp at hend)]; rfl
      · rename_i hend
        have hend : (!bad && l5.isEmpty) = true := by simpa using hend
        have hb2 : b2 = false := by
          cases b2 with
          | false => rfl
          | true =>
            have e : b4 = true := by cases b4 with
              | true => rfl
              | false => simp [rdNum] at h4
            rw [if_pos hend, e] at hoi
            cases hoi
        subst hb2
        rw [if_pos hend, hact] at hwhole
        have hwhole : prntO 4000 256 l = some (acc, ins) := hwhole
        obtain ⟨he, hok, h8, hi⟩ := prntO_some hwhole
        obtain ⟨hra, hl1, hl8⟩ := okA_all hok
        refine (PPrint_ok hD5.sl (by omega) (fun d hd => by have := (right_bounds (hra d hd)).2.2.2.2; omega) (nls_bl hN) (by omega) (fun y hy => by have := hi y hy; omega)).mono fun v7 M7 ⟨u7, h7⟩ => ?_
        refine (bEqual_ok h7.by (Sl.up h (u5.trans u7))).mono fun v8 M8 ⟨e8, e9⟩ => ?_
        subst e8; subst e9
        rw [e_not, BR_bool, if_neg (by simp [he])]
        have hD7 : NDS M M8 w acc := Nw.up hD5 u7
        have hN7 : NLs (N M) Ty.sl_uint8 M M8 x8 ins := NLs.up (N_up M) hN u7
        refine ⟨?_, hQ _ _ ⟨u5.trans u7, ?_⟩⟩
        · obtain ⟨a, c, rfl⟩ := hD7.sl.slice
          obtain ⟨a, q, c, rfl⟩ := nls_ntv hN7
          rfl
        · rw [hwhole]
          exact ⟨w, x8, rfl, hD7, hN7⟩
theorem PValue_ok {M : Store} {v : Value} {l : List UInt8} (h : B M v l) (hl : l.length ≤ 2 ^ 24) : R F.prnt_Value #[v] M fun r M' => Up M M' ∧ RunR M M' r (valO 4000 256 l) := by
  refine R.cps fun Q hQ => ?_
  apply T_prnt_Value
  unfold S_prnt_Value
  unfold valO at hQ
  refine (PParse_ok h hl).mono fun r1 M1 ⟨u1, h1⟩ => ?_
  cases hp : prntO 4000 256 l with
  | none =>
    rw [hp] at h1 hQ
    have h1 : r1 = .tuple #[.slice none 0 0, .slice none 0 0, .bool false] := h1
    subst h1
    rw [(tp3b _ _ _).1, (tp3b _ _ _).2.1, (tp3b _ _ _).2.2, e_not, BR_bool, if_pos (show (!false) = true from rfl)]
    exact ⟨rfl, hQ _ _ ⟨u1, rfl⟩⟩
  | some p =>
    rw [hp] at h1 hQ
    obtain ⟨k, ins⟩ := p
    obtain ⟨w, u, e, hD, hN⟩ := h1
    subst e
    obtain ⟨he, hok, h8, hi⟩ := prntO_some hp
    obtain ⟨hra, hl1, hl8⟩ := okA_all hok
    rw [(tp3b _ _ _).1, (tp3b _ _ _).2.1, (tp3b _ _ _).2.2, e_not, BR_bool, if_neg (by simp)]
    simp only [Option.bind_some] at hQ
    refine (RunE hD.sl (by simp only at *; omega) (fun ho => okA_pos ho) (fun d hd => by have := (right_bounds (hra d hd)).2.2.2.2; omega) (nls_bl hN) (by simp only at *; omega) (fun y hy => by have := hi y hy; omega)).mono fun r2 M2 ⟨u2, h2⟩ => ?_
    cases hr : runA k ins with
    | none =>
      rw [hr] at h2 hQ
      have h2 : r2 = .tuple #[.slice none 0 0, .bool false] := h2
      subst h2
      rw [(tp2b _ _).1, (tp2b _ _).2]
      exact ⟨rfl, hQ _ _ ⟨u1.trans u2, rfl⟩⟩
    | some t =>
      rw [hr] at h2 hQ
      obtain ⟨w2, e2, hN2, ht⟩ := h2
      subst e2
      rw [(tp2b _ _).1, (tp2b _ _).2]
      refine ⟨by obtain ⟨a, c, rfl⟩ := hN2.sl.slice; rfl, hQ _ _ ⟨u1.trans u2, w2, rfl, Nw.base hN2 u1.n, ht⟩⟩

/-! ## by the document -/
section
variable {M0 : Store} {b : Nat} {o : Option (List Dw)} {Q : Value → Store → Prop}
theorem ract_loop (hb : M0.n ≤ b) (hQ : ∀ w M acc, Up M0 M → NDS M0 M w acc → (∀ k, o = some k → acc = k) → Q (.tuple #[w, tv o.isSome]) M) :
    ∀ (j : Nat) (l : List UInt8) (bad : Bool) (acc : List Dw) (x5 : Value) (M : Store), j + acc.length ≤ 8 → Up M0 M → Rd Ty.fettleref1_Reader M b l bad → l.length ≤ 2 ^ 24 → NDS M0 M x5 acc → (∀ d ∈ acc, d.2.2.length ≤ 2 ^ 24) →
      (if bad = true then none else dosO 64 j l acc) = o → P_fettleref10_act_1 (pt b) x5 (iv (j : Int)) M Q := by
  intro j
  induction j with
  | zero =>
    intro l bad acc x5 M hi hu hR hl hN has ho
    apply T_fettleref10_act_1
    unfold S_fettleref10_act_1
    show OP (binI .gtr (iv ((0 : Nat) : Int)) (.int .i64 0)) _
    rw [gtr_l 0 0 rfl, BR_dec, if_neg (by omega)]
    apply T_fettleref10_act_3
    unfold S_fettleref10_act_3
    refine (rEnd_ok hR).mono fun v1 M1 ⟨e1, e2⟩ => ?_
    subst e1; subst e2
    rw [BR_bool]
    split
    · rename_i hend
      obtain ⟨hb0, hl0⟩ : bad = false ∧ l = [] := by simpa using hend
      subst hb0; subst hl0
      refine (ROk_ok hN.sl (by omega) (fun d hd => by have := has d hd; omega)).mono fun r M2 ⟨u2, hr⟩ => ?_
      subst hr
      have ho' : o = if okA acc = true then some acc else none := by rw [← ho]; simp [dosO]
      have : okA acc = o.isSome := by
        rw [ho']
        cases okA acc <;> simp
      rw [this]
      refine ⟨?_, hQ _ _ acc (hu.trans u2) (Nw.up hN u2) fun k hk => ?_⟩
      · obtain ⟨a, c, rfl⟩ := hN.sl.slice; rfl
      · rw [ho'] at hk
        split at hk
        · injection hk
        · cases hk
    · rename_i hend
      have ho' : o = none := by
        rw [← ho]
        cases bad with
        | true => rfl
        | false =>
          have : l.isEmpty = false := by simpa using hend
          simp [dosO, this]
      have hq := hQ x5 M1 acc hu hN (fun k hk => by rw [ho'] at hk; cases hk)
      rw [ho'] at hq
      refine ⟨?_, hq⟩
      obtain ⟨a, c, rfl⟩ := hN.sl.slice; rfl
  | succ j ih =>
    intro l bad acc x5 M hi hu hR hl hN has ho
    apply T_fettleref10_act_1
    unfold S_fettleref10_act_1
    rw [gtr_l 0 0 rfl, BR_dec, if_pos (by omega)]
    apply T_fettleref10_act_2
    unfold S_fettleref10_act_2
    refine (qNum (top := 11) hR (by omega) hl).mono fun v1 M1 ⟨c1, n1, l1, b1, e1, t1, len1, R1, h1⟩ => ?_
    subst e1
    refine (qNum (top := 999) R1 (by omega) (by omega)).mono fun v2 M2 ⟨c2, n2, l2, b2, e2, t2, len2, R2, h2⟩ => ?_
    subst e2
    have u2 : Up M0 M2 := (hu.ch c1 (by simpa using hb)).ch c2 (by simpa using hb)
    have hN2 : NDS M0 M2 x5 acc := Nw.keep (Nw.keep hN ne_do_rrd (hR.chk c1)) ne_do_rrd (R1.chk c2)
    rw [bs_do2, OP_some]
    refine s_new fun M3 u3 o3 _ => ?_
    refine s_st (vs := [iv (n1 : Int), iv (n2 : Int), sv []]) o3 rfl rfl rfl fun M4 c4 o4 _ => ?_
    have u24 : Up M2 M4 := u3.ch c4 (by simp)
    refine (qBytes (top := 64) (R2.up u24) (by omega) (by omega)).mono fun v5 M5 ⟨c5, t, l3, b3, lt, len3, hx5, R5, h3⟩ => ?_
    have hbl := R2.lt
    have hne : M2.n ∉ [b] := by simp; omega
    have o5 := o4.fr c5 hne
    have u5 : Up M0 M5 := (u2.trans u24).ch c5 (by simpa using hb)
    rw [cvBS_ok hx5, OP_some, fad0]
    refine s_st1 (i := 2) (w := sv t) o5 (by simp) rfl rfl fun M6 c6 o6 _ => ?_
    have u6 : Up M0 M6 := u5.ch c6 (by have := u2.n; simpa using this)
    have o6 : Ob M6 M2.n (dcs ((n1 : Int), (n2 : Int), t)) Ty.api_Do := o6
    have R6 : Rd Ty.fettleref1_Reader M6 b l3 b3 := R5.keep ne_rrd_do ne_u8_do (c6.keepT o5)
    have hN5 : NDS M0 M5 x5 acc := Nw.keep (Nw.up hN2 u24) ne_do_rrd ((R2.up u24).chk c5)
    have hN6 : NDS M0 M6 x5 acc := Nw.frN hN2 hN5 c6
    rw [o6.ldA (s := 3) rfl, OP_some]
    rw [show bldL (.agg #[(.int .i64 0), (.int .i64 0), (.string ⟨#[]⟩)]) 3 1 [(0, .agg (dcs ((n1 : Int), (n2 : Int), t)).toArray)] = some (dcs ((n1 : Int), (n2 : Int), t)) from bl_do _, OP_some]
    rw [LT_eq]
    refine NK.app1 (M0 := M0) (Mb := M0) dcs_len u6 (Nat.le_refl _) u6.n hN6 ((n1 : Int), (n2 : Int), t) rfl (by omega) fun v' M' hu' hN' hk' _ => ?_
    rw [sub_l 1 1 rfl (by omega) (by omega), show j + 1 - 1 = j by omega]
    refine ih l3 b3 (acc ++ [((n1 : Int), (n2 : Int), t)]) v' M' (by simp; omega) hu' (R6.keep ne_rrd_do ne_u8_do (Nw.keepE hN6 hk')) (by omega) hN' (fun d hd => ?_) ?_
    · rcases List.mem_append.1 hd with hd | hd
      · exact has d hd
      · have : d = ((n1 : Int), (n2 : Int), t) := by simpa using hd
        subst this
        show t.length ≤ _
        omega
    · rw [← ho]; exact (do_of h1 h2 h3).symm
end
theorem rd_new {M : Store} {v : Value} {l : List UInt8} (h : B M v l) {K : Value → Store → Prop} (hK : ∀ M1, Up M M1 → Rd Ty.fettleref1_Reader M1 M.n l false → K (pt M.n) M1) :
    OP (bldS #[(.slice none 0 0), (.bool false)] [(0, 1), (1, 1)] [(0, v)]) fun t => OP (boxv t) fun c => LT (.pointer (some ⟨M.n, 0, none⟩)) (M.push (some (.inl (c, Ty.fettleref1_Reader, true)))) K := by
  obtain ⟨a, c, rfl⟩ := h.slice
  have e1 : bldS #[.slice none 0 0, .bool false] [(0, 1), (1, 1)] [(0, .slice a l.length c)] = some (.agg #[.slice a l.length c, .bool false]) := by kernel_rfl
  have e2 : boxv (.agg #[.slice a l.length c, .bool false]) = some [.slice a l.length c, .bool false] := by kernel_rfl
  rw [e1, OP_some, e2, OP_some, LT_eq]
  have u1 := Up.push M (some (.inl ([.slice a l.length c, .bool false], Ty.fettleref1_Reader, true)))
  exact hK _ u1 ⟨_, Ob.new M [.slice a l.length c, .bool false] Ty.fettleref1_Reader, Sl.up h u1⟩
theorem ract_ok {M : Store} {v : Value} {l : List UInt8} (h : B M v l) (hl : l.length ≤ 2 ^ 24) : R F.fettleref10_act #[v] M fun r M' => Up M M' ∧ ActR M M' r (actO 64 l) := by
  refine R.cps fun Q hQ => ?_
  apply T_fettleref10_act
  unfold S_fettleref10_act
  refine rd_new h fun M1 u1 hR => ?_
  have hb : M.n ≤ M.n := Nat.le_refl _
  refine (qNum (top := 8) hR (by omega) hl).mono fun v2 M2 ⟨c2, n, l2, b2, e2, t2, len2, R2, h2⟩ => ?_
  subst e2
  refine ract_loop (M0 := M) (o := actO 64 l) hb (fun w M' acc hu hN hk => hQ _ _ ⟨hu, w, acc, rfl, hN, hk⟩) n l2 b2 [] _ M2 (by simpa using t2) (u1.ch c2 (by simp)) R2 (by omega) NK.nil (by simp) ?_
  unfold actO
  rw [h2]
  cases b2 with
  | true => rfl
  | false => rfl
section
variable {M0 : Store} {b : Nat} {x6 x7 : Value} {accD : List Dw} {oi : Option (List (List UInt8))} {Q : Value → Store → Prop}
theorem rins_loop (hb : M0.n ≤ b) (hQ : ∀ x8 M ins bad l, Up M0 M → Rd Ty.fettleref1_Reader M b l bad → NLs B Ty.sl_uint8 M0 M x8 ins → NDS M0 M x6 accD → (if (!bad && l.isEmpty) = true then some ins else none) = oi → P_fettleref10_Parse_2 (pt b) x6 x7 x8 M Q) :
    ∀ (j : Nat) (l : List UInt8) (bad : Bool) (ins : List (List UInt8)) (x8 : Value) (M : Store), j + ins.length ≤ 8 → Up M0 M → Rd Ty.fettleref1_Reader M b l bad → l.length ≤ 2 ^ 24 → NLs B Ty.sl_uint8 M0 M x8 ins → NDS M0 M x6 accD →
      (if bad = true then none else insO j l ins) = oi → P_fettleref10_Parse_1 (pt b) x6 x7 x8 (iv (j : Int)) M Q := by
  intro j
  induction j with
  | zero =>
    intro l bad ins x8 M hi hu hR hl hN hD ho
    apply T_fettleref10_Parse_1
    unfold S_fettleref10_Parse_1
    show OP (binI .gtr (iv ((0 : Nat) : Int)) (.int .i64 0)) _
    rw [gtr_l 0 0 rfl, BR_dec, if_neg (by omega)]
    refine hQ x8 M ins bad l hu hR hN hD ?_
    rw [← ho]
    cases bad <;> simp [insO]
  | succ j ih =>
    intro l bad ins x8 M hi hu hR hl hN hD ho
    apply T_fettleref10_Parse_1
    unfold S_fettleref10_Parse_1
    rw [gtr_l 0 0 rfl, BR_dec, if_pos (by omega)]
    refine (qBytes (top := 256) hR (by omega) hl).mono fun v1 M1 ⟨c1, x, l1, b1, lx, len1, hx, R1, h1⟩ => ?_
    have u1 : Up M0 M1 := hu.ch c1 (by simpa using hb)
    obtain ⟨a, c, rfl⟩ := hx.slice
    rw [bl_sl1, LT_eq]
    have hN1 : NLs B Ty.sl_uint8 M0 M1 x8 ins := NLs.keep (B_keep ne_rrd) hN ne_sl_rrd (hR.chk c1)
    obtain ⟨v', M', e1, hu', hN', hk⟩ := NLs.app1 (x := x) (B_keep ne_u8_sl) u1 hN1 hx (by omega)
    rw [e1, OP2_some, sub_l 1 1 rfl (by omega) (by omega), show j + 1 - 1 = j by omega]
    refine ih l1 b1 (ins ++ [x]) v' M' (by simp; omega) hu' (R1.keep ne_rrd_sl ne_u8_sl hk) (by omega) hN' (Nw.keep (Nw.keep hD ne_do_rrd (hR.chk c1)) ne_do_sl hk) ?_
    rw [← ho]; exact (ins_of h1).symm
end
def ParsB (M : Store) (r : Value) : Option (List Dw × List (List UInt8)) → Prop
  | none => r = .tuple #[.slice none 0 0, .slice none 0 0, .bool false]
  | some p => ∃ w u, r = .tuple #[w, u, .bool true] ∧ DS M w p.1 ∧ BL M u p.2
theorem RParse_ok {M : Store} {v : Value} {l : List UInt8} (h : B M v l) (hl : l.length ≤ 2 ^ 24) : R F.fettleref10_Parse #[v] M fun r M' => Up M M' ∧ ParsB M' r (prntO 4000 256 l) := by
  rw [prntO_same 4000 256 10000 64 (by decide) (by decide) (by decide) (by decide)]
  refine R.cps fun Q hQ => ?_
  apply T_fettleref10_Parse
  unfold S_fettleref10_Parse
  refine rd_new h fun M1 u1 hR => ?_
  have hb : M.n ≤ M.n := Nat.le_refl _
  refine (qBytes (top := 10000) hR (by omega) hl).mono fun v2 M2 ⟨c2, x, l2, b2, lx, len2, hx, R2, h2⟩ => ?_
  have u2 : Up M M2 := u1.ch c2 (by simp)
  refine (ract_ok hx (by omega)).mono fun r3 M3 ⟨u3, w, acc, e3, hD, hk⟩ => ?_
  subst e3
  rw [(tp2b w _).1, (tp2b w _).2]
  refine (qNum (top := 8) (R2.up u3) (by omega) (by omega)).mono fun v4 M4 ⟨c4, n, l4, b4, e4, t4, len4, R4, h4⟩ => ?_
  subst e4
  have u3' : Up M M3 := u2.trans u3
  have u4 : Up M M4 := u3'.ch c4 (by simp)
  have hD4 : NDS M M4 w acc := Nw.base (Nw.keep hD ne_do_rrd ((R2.up u3).chk c4)) u2.n
  have hwhole := rd_bad h2 h4 64
  refine rins_loop (M0 := M) (oi := if b4 = true then none else insO n l4 []) hb (fun x8 M5 ins bad l5 u5 R5 hN hD5 hoi => ?_) n l4 b4 [] _ M4 (by simpa using t4) u4 R4 (by omega) NLs.nil hD4 rfl
  rw [← hoi] at hwhole
  have none_ : ∀ M', Up M M' → prntO 10000 64 l = none → NTs [(.slice none 0 0), (.slice none 0 0), (.bool false)] ∧ Q (.tuple #[(.slice none 0 0), (.slice none 0 0), (.bool false)]) M' := fun M' hu e => ⟨rfl, hQ _ _ ⟨hu, by rw [e]; rfl⟩⟩
  apply T_fettleref10_Parse_2
  unfold S_fettleref10_Parse_2
  rw [e_not, BR_bool]
  split
  · rename_i hno
    refine none_ _ u5 ?_
    rw [hwhole]
    cases hact : actO 64 x with
    | some k => rw [hact] at hno; simp at hno
    | none =>
      cases (if (!bad && l5.isEmpty) = true then some ins else none : Option (List (List UInt8))) with
      | none => rfl
      | some i => cases b2 <;> rfl
  · rename_i hyes
    cases hact : actO 64 x with
    | none => rw [hact] at hyes; simp at hyes
    | some k =>
      obtain rfl := hk k hact
      refine (rEnd_ok R5).mono fun v6 M6 ⟨e6, e7⟩ => ?_
      subst e6; subst e7
      rw [e_not, BR_bool]
      split
      · rename_i hend
        refine none_ _ u5 ?_
        rw [hwhole, if_neg (fun h => by rw [h] at hend; simp at hend)]; rfl
      · rename_i hend
        have hend : (!bad && l5.isEmpty) = true := by simpa using hend
        have hb2 : b2 = false := by
          cases b2 with
          | false => rfl
          | true =>
            have e : b4 = true := by cases b4 with
              | true => rfl
              | false => simp [rdNum] at h4
            rw [if_pos hend, e] at hoi
            cases hoi
        subst hb2
        rw [if_pos hend, hact] at hwhole
        have hwhole : prntO 10000 64 l = some (acc, ins) := hwhole
        refine ⟨?_, hQ _ _ ⟨u5, ?_⟩⟩
        · obtain ⟨a, c, rfl⟩ := hD5.sl.slice
          obtain ⟨a, q, c, rfl⟩ := nls_ntv hN
          rfl
        · rw [hwhole]
          exact ⟨w, x8, rfl, hD5.sl, hN.ls⟩
theorem RValue_ok {M : Store} {v : Value} {l : List UInt8} (h : B M v l) (hl : l.length ≤ 2 ^ 24) : R F.fettleref10_Value #[v] M fun r M' => Up M M' ∧ RunB M' r (valO 4000 256 l) := by
  refine R.cps fun Q hQ => ?_
  apply T_fettleref10_Value
  unfold S_fettleref10_Value
  unfold valO at hQ
  refine (RParse_ok h hl).mono fun r1 M1 ⟨u1, h1⟩ => ?_
  cases hp : prntO 4000 256 l with
  | none =>
    rw [hp] at h1 hQ
    have h1 : r1 = .tuple #[.slice none 0 0, .slice none 0 0, .bool false] := h1
    subst h1
    rw [(tp3b _ _ _).1, (tp3b _ _ _).2.1, (tp3b _ _ _).2.2, e_not, BR_bool, if_pos (show (!false) = true from rfl)]
    exact ⟨rfl, hQ _ _ ⟨u1, rfl⟩⟩
  | some p =>
    rw [hp] at h1 hQ
    obtain ⟨k, ins⟩ := p
    obtain ⟨w, u, e, hD, hN⟩ := h1
    subst e
    obtain ⟨he, hok, h8, hi⟩ := prntO_some hp
    obtain ⟨hra, hl1, hl8⟩ := okA_all hok
    rw [(tp3b _ _ _).1, (tp3b _ _ _).2.1, (tp3b _ _ _).2.2, e_not, BR_bool, if_neg (by simp)]
    simp only [Option.bind_some] at hQ
    refine (RRunE hD (by simp only at *; omega) (fun d hd => by have := (right_bounds (hra d hd)).2.2.2.2; omega) hN (by simp only at *; omega) (fun y hy => by have := hi y hy; omega)).mono fun r2 M2 ⟨u2, h2⟩ => ?_
    cases hr : runA k ins with
    | none =>
      rw [hr] at h2 hQ
      have h2 : r2 = .tuple #[.slice none 0 0, .bool false] := h2
      subst h2
      rw [(tp2b _ _).1, (tp2b _ _).2]
      exact ⟨rfl, hQ _ _ ⟨u1.trans u2, rfl⟩⟩
    | some t =>
      rw [hr] at h2 hQ
      obtain ⟨w2, e2, hN2, ht⟩ := h2
      subst e2
      rw [(tp2b _ _).1, (tp2b _ _).2]
      refine ⟨by obtain ⟨a, c, rfl⟩ := hN2.slice; rfl, hQ _ _ ⟨u1.trans u2, w2, rfl, hN2, ht⟩⟩
end Go.G
