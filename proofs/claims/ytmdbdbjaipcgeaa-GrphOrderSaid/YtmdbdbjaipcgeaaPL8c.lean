/- Layer 8: what the law takes for the order, and that it is so. -/
import Derived.Test.YtmdbdbjaipcgeaaPL8b
namespace Go.G
open Go.Ab Go.Proofs Go.RowKit
set_option linter.unusedVariables false
set_option linter.unusedSimpArgs false
set_option maxRecDepth 100000

/-- A set, as a map finds it. -/
def setF (l : List Int) (k : Int) : Option Value := if k ∈ l then some (tv true) else none
theorem setF_get (l : List Int) (k : Int) : (setF l k).getD (.bool false) = tv (decide (k ∈ l)) := by
  unfold setF; by_cases h : k ∈ l <;> simp [h]
theorem setF_put (l : List Int) (k : Int) : (fun q => if q = k then some (tv true) else setF l q) = setF (l ++ [k]) := by
  funext q
  unfold setF
  by_cases h : q = k <;> simp [h]

/-- What stands while the law looks for the order. -/
structure OC (Mb : Store) (b7 b10 b15 : Nat) (es : Nat → List Int) (once : List Int) (x9 x13 x14 x16 x17 : Value) (res : Option (List Int)) : Prop where
  har : AR Mb b7 es
  hes : ∀ k, k < 16 → (es k).length ≤ 40 ∧ ∀ z ∈ es k, 0 ≤ z ∧ z < 16
  h9 : LV iv Ty.int Mb x9 once
  hon : ∀ z ∈ once, 0 ≤ z ∧ z < 16
  hol : once.length ≤ 20
  has : Mp iv Mb b10 (setF once)
  h13 : LV iv Ty.int Mb x13 (res.getD [])
  h14 : x14 = tv res.isSome
  h15 : Ob Mb b15 [.func (.func F.fettlelaw8_GrphOrder_c2) #[] #[]] Ty.func_sl_int_sl_string
  h16 : LV sv Ty.string Mb x16 ((res.getD []).map letS)
  h17 : x17 = tv res.isSome
  hres : res = ordF once (fun z => es z.toNat) once.length []

section
variable {Mb : Store} {b7 b10 b15 b18 : Nat} {es : Nat → List Int} {once : List Int} {x9 x13 x14 x16 x17 : Value} {res : Option (List Int)} {Q : Value → Store → Prop}
abbrev pp (b : Nat) : Value := .pointer (some ⟨b, 0, none⟩)

/-- All is done. -/
theorem ord_end (c : OC Mb b7 b10 b15 es once x9 x13 x14 x16 x17 res) (hQ : ∀ M', Q (tv true) M') {M : Store} (hu : Up Mb M) {x19 : Value} {dn : List Int} (h19 : NV iv Ty.int Mb M x19 dn) (hd : res = some dn) (hdn : ∀ z ∈ dn, 0 ≤ z ∧ z < 16) (hdl : dn.length ≤ 20) :
    P_fettlelaw8_GrphOrder_6 x13 x14 (pp b15) x16 x17 x19 M Q := by
  apply T_fettlelaw8_GrphOrder_6
  unfold S_fettlelaw8_GrphOrder_6
  have h13 := c.h13
  have h16 := c.h16
  rw [c.h14, c.h17, hd, BR_bool, if_pos (by rfl), BR_bool, if_pos (by rfl)]
  rw [hd] at h13 h16
  simp only [Option.getD_some] at h13 h16
  refine (SameInts_ok (h13.up hu) h19.lv (by omega)).mono fun v M1 ⟨e1, e2⟩ => ?_
  subst e1; subst e2
  rw [BR_bool, if_pos (by simp), (c.h15.up hu).ld (v := .func (.func F.fettlelaw8_GrphOrder_c2) #[] #[]) rfl, OP_some]
  show R F.fettlelaw8_GrphOrder_c2 #[x19] M1 _
  refine (letters_ok h19.lv (by omega) hdn).mono fun v M2 ⟨hu2, hv⟩ => ?_
  refine (SameTexts_ok ((h16.up hu).up hu2) hv.lv (by simp; omega)).mono fun v M3 ⟨e3, e4⟩ => ?_
  subst e3; subst e4
  rw [BR_bool, if_pos (by simp)]
  refine (awake8_ok M3).mono fun v3 M3 ⟨e3, e4⟩ => ?_
  subst e4
  exact ⟨rfl, hQ _⟩

/-- Whether one is free. -/
theorem ord_free (c : OC Mb b7 b10 b15 es once x9 x13 x14 x16 x17 res) {M : Store} (hu : Up Mb M) {dn : List Int} (h18 : Mp iv M b18 (setF dn)) {x19 x20 x21 w : Value} {ys : List Int} (hw : LV iv Ty.int M w ys) (hyl : ys.length ≤ 40) (fl : Bool)
    (hk : P_fettlelaw8_GrphOrder_12 (pp b7) x9 (.map (some b10)) x13 x14 (pp b15) x16 x17 (.map (some b18)) x19 x20 x21 (tv (fl && ys.all fun b => decide (b ∉ once) || decide (b ∈ dn))) M Q) :
    ∀ (d k : Nat), d + k = ys.length → P_fettlelaw8_GrphOrder_10 (pp b7) x9 (.map (some b10)) x13 x14 (pp b15) x16 x17 (.map (some b18)) x19 x20 x21 (tv (fl && (ys.take k).all fun b => decide (b ∉ once) || decide (b ∈ dn))) w (iv ys.length) (iv k) M Q := by
  intro d
  induction d with
  | zero =>
    intro k hk'
    apply T_fettlelaw8_GrphOrder_10
    unfold S_fettlelaw8_GrphOrder_10
    rw [e_lss, BR_dec, if_neg (by omega), List.take_of_length_le (by omega)]
    exact hk
  | succ d ih =>
    intro k hk'
    apply T_fettlelaw8_GrphOrder_10
    unfold S_fettlelaw8_GrphOrder_10
    rw [e_lss, BR_dec, if_pos (by omega)]
    apply T_fettlelaw8_GrphOrder_11
    unfold S_fettlelaw8_GrphOrder_11
    obtain ⟨p, h1, h2⟩ := hw.at (i := k) (by omega) .i64
    have hn := ih (k + 1) (by omega)
    rw [List.take_succ_eq_append_getElem (by omega), List.all_append] at hn
    generalize hy : ys[k]'(by omega) = y at *
    simp only [List.all_cons, List.all_nil, Bool.and_true] at hn
    rw [h1, OP_some, h2, OP_some, BR_bool]
    generalize ((ys.take k).all fun b => decide (b ∉ once) || decide (b ∈ dn)) = f0 at *
    split
    · rename_i hf
      rw [Bool.and_eq_true] at hf
      rw [hf.1, hf.2, Bool.true_and, Bool.true_and] at hn
      rw [(c.has.up hu).look1 key_iv, OP_some, setF_get, e_not]
      by_cases hy1 : y ∈ once
      · rw [decide_eq_true hy1, Bool.not_true, BR3_f]
        simp only [hy1, not_true_eq_false, decide_false, Bool.false_or] at hn
        rw [h18.look1 key_iv, OP_some, setF_get, e_add, w64 (by omega) (by omega)]
        exact hn
      · rw [decide_eq_false hy1, Bool.not_false, BR3_t]
        simp only [hy1, not_false_eq_true, decide_true, Bool.true_or] at hn
        rw [e_add, w64 (by omega) (by omega)]
        exact hn
    · rename_i hf
      have : (fl && f0) = false := by simpa using hf
      rw [e_add, w64 (by omega) (by omega)]
      rw [← Bool.and_assoc, this, Bool.false_and] at hn
      exact hn

def nv (o : Option Int) : Int := match o with
  | some z => z
  | none => -1

/-- Which comes next. -/
theorem ord_next (c : OC Mb b7 b10 b15 es once x9 x13 x14 x16 x17 res) {M : Store} (hu : Up Mb M) {dn : List Int} (h18 : Mp iv M b18 (setF dn)) {x19 : Value}
    (hk : P_fettlelaw8_GrphOrder_9 (pp b7) x9 (.map (some b10)) x13 x14 (pp b15) x16 x17 (.map (some b18)) x19 (iv (nv (nxt once (fun z => es z.toNat) dn))) M Q) :
    ∀ (i : Nat), i ≤ once.length → P_fettlelaw8_GrphOrder_7 (pp b7) x9 (.map (some b10)) x13 x14 (pp b15) x16 x17 (.map (some b18)) x19 (iv (nv ((once.drop i).find? (free once (fun z => es z.toNat) dn)))) (iv ((i : Int) - 1)) M Q := by
  intro i
  have hol := c.hol
  induction i with
  | zero =>
    intro _
    apply T_fettlelaw8_GrphOrder_7
    unfold S_fettlelaw8_GrphOrder_7
    rw [e_geq, BR_dec, if_neg (by omega)]
    exact hk
  | succ i ih =>
    intro hi
    apply T_fettlelaw8_GrphOrder_7
    unfold S_fettlelaw8_GrphOrder_7
    have e1 : ((i + 1 : Nat) : Int) - 1 = (i : Int) := by omega
    rw [e1, e_geq, BR_dec, if_pos (by omega)]
    apply T_fettlelaw8_GrphOrder_8
    unfold S_fettlelaw8_GrphOrder_8
    obtain ⟨p, h1, h2⟩ := (c.h9.up hu).at (i := i) (by omega) .i64
    have hz := c.hon _ (List.getElem_mem (show i < once.length by omega))
    have hih := ih (by omega)
    rw [List.drop_eq_getElem_cons (by omega), List.find?_cons] at hih
    generalize hze : once[i]'(by omega) = z at *
    obtain ⟨w, g1, g2⟩ := (c.har.up hu).at (k := z.toNat) (by omega)
    have e2 : ixP 1 16 (pp b7) (iv z) = some (.pointer (some ⟨b7, z.toNat, none⟩)) := by
      have : z = (z.toNat : Int) := by omega
      rw [this, ixP_at (by omega)]; simp
    rw [h1, OP_some, h2, OP_some, h18.look1 key_iv, OP_some, setF_get, e_not, OP_some, h2, OP_some, e2, OP_some, g1, OP_some, g2.len, OP_some]
    have hyl := (c.hes z.toNat (by omega)).1
    have e3 : (!decide (z ∈ dn)) = (decide (z ∉ dn) && ((es z.toNat).take 0).all fun b => decide (b ∉ once) || decide (b ∈ dn)) := by simp
    rw [e3]
    refine ord_free c hu h18 g2 hyl _ ?_ (es z.toNat).length 0 rfl
    apply T_fettlelaw8_GrphOrder_12
    unfold S_fettlelaw8_GrphOrder_12
    have hfr : (decide (z ∉ dn) && (es z.toNat).all fun b => decide (b ∉ once) || decide (b ∈ dn)) = free once (fun z => es z.toNat) dn z := rfl
    rw [hfr, BR_bool]
    split
    · rename_i hf
      rw [hf] at hih
      rw [h1, OP_some, h2, OP_some]
      apply T_fettlelaw8_GrphOrder_13
      unfold S_fettlelaw8_GrphOrder_13
      rw [e_sub, w64 (by omega) (by omega)]
      exact hih
    · rename_i hf
      have hf : free once (fun z => es z.toNat) dn z = false := by simpa using hf
      rw [hf] at hih
      apply T_fettlelaw8_GrphOrder_13
      unfold S_fettlelaw8_GrphOrder_13
      rw [e_sub, w64 (by omega) (by omega)]
      exact hih

/-- One behind the other. -/
theorem ord_want (c : OC Mb b7 b10 b15 es once x9 x13 x14 x16 x17 res) (h18n : Mb.n ≤ b18) (hQ : ∀ M', Q (tv true) M') :
    ∀ (k : Nat) (M : Store) (x19 : Value) (dn : List Int), k + dn.length = once.length → Up Mb M → Mp iv M b18 (setF dn) → NV iv Ty.int Mb M x19 dn → (∀ z ∈ dn, 0 ≤ z ∧ z < 16) → ordF once (fun z => es z.toNat) k dn = res →
      P_fettlelaw8_GrphOrder_4 (pp b7) x9 (.map (some b10)) x13 x14 (pp b15) x16 x17 (.map (some b18)) x19 M Q := by
  intro k
  have hol := c.hol
  induction k with
  | zero =>
    intro M x19 dn hk hu h18 h19 hdn hr
    apply T_fettlelaw8_GrphOrder_4
    unfold S_fettlelaw8_GrphOrder_4
    rw [h19.lv.len, OP_some, (c.h9.up hu).len, OP_some, e_lss, BR_dec, if_neg (by omega)]
    exact ord_end c hQ hu h19 hr.symm hdn (by omega)
  | succ k ih =>
    intro M x19 dn hk hu h18 h19 hdn hr
    apply T_fettlelaw8_GrphOrder_4
    unfold S_fettlelaw8_GrphOrder_4
    rw [h19.lv.len, OP_some, (c.h9.up hu).len, OP_some, e_lss, BR_dec, if_pos (by omega)]
    apply T_fettlelaw8_GrphOrder_5
    unfold S_fettlelaw8_GrphOrder_5
    rw [(c.h9.up hu).len, OP_some, e_sub, w64 (by omega) (by omega)]
    have hd := List.drop_of_length_le (Nat.le_refl once.length)
    have := fun hk => ord_next (Q := Q) c hu h18 (x19 := x19) hk once.length (Nat.le_refl _)
    rw [hd] at this
    refine this ?_
    apply T_fettlelaw8_GrphOrder_9
    unfold S_fettlelaw8_GrphOrder_9
    rw [ordF] at hr
    cases hn : nxt once (fun z => es z.toNat) dn with
    | none =>
      rw [hn] at hr
      simp only at hr
      subst hr
      have h13 := c.h13
      have h16 := c.h16
      simp only [Option.getD_none, List.map_nil] at h13 h16
      have hm1 : nv none = -1 := rfl
      rw [hm1, e_lss, BR_dec, if_pos (by decide), c.h14, e_not, BR_bool, if_pos (by decide), c.h17, e_not, BR_bool, if_pos (by decide), h13.len, OP_some, e_eql, BR_dec, if_pos (by rfl), h16.len, OP_some, e_eql, BR_dec, if_pos (by rfl)]
      refine (awake8_ok M).mono fun v3 M3 ⟨e3, e4⟩ => ?_
      subst e4
      exact ⟨rfl, hQ _⟩
    | some z =>
      rw [hn] at hr
      simp only at hr
      obtain ⟨hz1, hz2⟩ := nxt_some hn
      have hz := c.hon z hz1
      have hm1 : nv (some z) = z := rfl
      rw [hm1, e_lss, BR_dec, if_neg (by omega)]
      obtain ⟨M2, e2, hm2, hc2, hk2⟩ := h18.put key_iv z (one_tv true)
      rw [e2, OP_some, bl_int, OP_some, LT_eq]
      have hu2 : Up Mb M2 := hu.ch hc2 (by simpa using h18n)
      have h19' := Nw.keepI h19 hk2
      refine NV.app1 hu2 (Nat.le_refl _) hu2.n h19' z rfl (by omega) fun v3 M3 hu3 hN3 hc3 _ => ?_
      refine ih M3 v3 (dn ++ [z]) (by simp; omega) hu3 ?_ hN3 (fun q hq => ?_) hr
      · rw [← setF_put]; exact hm2.app h19' hc3
      · rcases List.mem_append.1 hq with hq | hq
        · exact hdn q hq
        · simp at hq; subst hq; exact hz
end

end Go.G
