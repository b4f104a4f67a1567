/- ActsApart: actions that differ have bytes that differ. -/
import Derived.Test.YtjchjhkhopcalaaDoorPA6b
import Derived.Test.YtjchjhkhopcalaaDoorPGD
import Derived.Test.YtjchjhkhopcalaaDoorPAW
namespace Go.G
open Go.Ab Go.Proofs Go.RowKit
set_option linter.unusedVariables false
set_option linter.unusedSimpArgs false
set_option maxRecDepth 100000

theorem awake6_ok {M : Store} {Q : Value → Store → Prop} (hQ : Q (tv true) M) : R F.fettlelaw6_awake #[] M Q := R_told (g := yes0) (by kernel_rfl) rfl hQ

/-! ## the same -/
theorem do_abin1 (a b a' b' : Int) (c c' : List UInt8) : abin Tryd.prog false .neq Ty.api_Do (dv (a, b, c)) (dv (a', b', c')) = (if a = a' then if b = b' then if (⟨c.toArray⟩ : ByteArray) = ⟨c'.toArray⟩ then some true else some false else some false else some false).bind fun b => some (.bool (!b)) := by kernel_rfl
theorem ba_eq (c c' : List UInt8) : ((⟨c.toArray⟩ : ByteArray) = ⟨c'.toArray⟩) ↔ c = c' := by
  constructor
  · intro h; injection h with h; simpa using h
  · rintro rfl; rfl
theorem do_ne (d e : Dw) (K : Value → Prop) : OP (abin Tryd.prog false .neq Ty.api_Do (dv d) (dv e)) K = K (.bool (decide (d ≠ e))) := by
  obtain ⟨a, b, c⟩ := d
  obtain ⟨a', b', c'⟩ := e
  rw [do_abin1]
  simp only [ba_eq]
  have : (if a = a' then if b = b' then if c = c' then some true else some false else some false else some false) = some (decide ((a, b, c) = (a', b', c'))) := by
    simp only [Prod.mk.injEq]
    by_cases h1 : a = a' <;> by_cases h2 : b = b' <;> by_cases h3 : c = c' <;> simp [h1, h2, h3]
  rw [this]
  show K (.bool (!decide ((a, b, c) = (a', b', c')))) = _
  rw [decide_not]
theorem SameAct_loop {M : Store} {v w : Value} {l k : List Dw} (h : DS M v l) (g : DS M w k) (hl : l.length ≤ 2 ^ 40) (hlk : l.length = k.length) {Q : Value → Store → Prop} (hQ : Q (tv (decide (l = k))) M) :
    ∀ (n i : Nat), n + i = l.length → (∀ j (hj : j < i) (h1 : j < l.length) (h2 : j < k.length), l[j] = k[j]) → P_fettleref4_SameAct_1 v w (iv (i : Int)) M Q := by
  intro n
  induction n with
  | zero =>
    intro i hi hp
    apply T_fettleref4_SameAct_1
    unfold S_fettleref4_SameAct_1
    rw [h.len, OP_some, lss_n, BR_dec, if_neg (by omega)]
    apply T_fettleref4_SameAct_3
    unfold S_fettleref4_SameAct_3
    have : l = k := List.ext_getElem hlk fun j h1 h2 => hp j (by omega) h1 h2
    rw [decide_eq_true this] at hQ
    exact ⟨rfl, hQ⟩
  | succ n ih =>
    intro i hi hp
    apply T_fettleref4_SameAct_1
    unfold S_fettleref4_SameAct_1
    have hil : i < l.length := by omega
    have hik : i < k.length := by omega
    rw [h.len, OP_some, lss_n, BR_dec, if_pos hil]
    apply T_fettleref4_SameAct_2
    unfold S_fettleref4_SameAct_2
    rw [ds_ld h hil, ds_ld g hik, do_ne, BR_dec]
    split
    · rename_i hne
      rw [decide_eq_false (fun e => hne (by subst e; rfl))] at hQ
      exact ⟨rfl, hQ⟩
    · rename_i he
      rw [add1_n _ (by omega)]
      refine ih (i + 1) (by omega) fun j hj h1 h2 => ?_
      by_cases e : j = i
      · subst e; exact Decidable.not_not.1 he
      · exact hp j (by omega) h1 h2
theorem SameAct_ok {M : Store} {v w : Value} {l k : List Dw} (h : DS M v l) (g : DS M w k) (hl : l.length ≤ 2 ^ 40) : R F.fettleref4_SameAct #[v, w] M fun r M' => M' = M ∧ r = tv (decide (l = k)) := by
  refine R.cps fun Q hQ => ?_
  apply T_fettleref4_SameAct
  unfold S_fettleref4_SameAct
  rw [h.len, OP_some, g.len, OP_some]
  show OP (binI .neq (iv (l.length : Int)) (iv (k.length : Int))) _
  rw [e_neq, BR_dec]
  split
  · rename_i hne
    have := hQ (tv (decide (l = k))) M ⟨rfl, rfl⟩
    rw [decide_eq_false (fun e => hne (by rw [e]))] at this
    exact ⟨rfl, this⟩
  · rename_i he
    exact SameAct_loop h g hl (by omega) (hQ _ _ ⟨rfl, rfl⟩) l.length 0 rfl fun j hj => by omega

/-! ## bytes tell apart -/
theorem be_mod : ∀ (k a b : Nat), be k a = be k b → a % 256 ^ k = b % 256 ^ k
  | 0, a, b, _ => by simp [Nat.mod_one]
  | k + 1, a, b, h => by
    simp only [be, List.cons.injEq] at h
    have ih := be_mod k a b h.2
    have h1 := congrArg UInt8.toNat h.1
    simp only [UInt8.toNat_ofNat'] at h1
    rw [Nat.mod_pow_succ, Nat.mod_pow_succ (x := b), ih]
    have h1 : a / 256 ^ k % 256 = b / 256 ^ k % 256 := h1
    rw [h1]
theorem be6_inj {a b : Nat} (ha : a < 256 ^ 6) (hb : b < 256 ^ 6) (h : be 6 a = be 6 b) : a = b := by
  have := be_mod 6 a b h
  rwa [Nat.mod_eq_of_lt ha, Nat.mod_eq_of_lt hb] at this
def okE (d : Dw) : Prop := 0 ≤ d.1 ∧ d.1 ≤ 1000 ∧ 0 ≤ d.2.1 ∧ d.2.1 ≤ 1000 ∧ d.2.2.length ≤ 1000
theorem okD.e {d : Dw} (h : okD d) : okE d := by obtain ⟨h1, h2, h3, h4, h5⟩ := h; exact ⟨h1, by omega, h3, by omega, by omega⟩
theorem held_inj {a b : Int} (h1 : 0 ≤ a) (h2 : a ≤ 1000) (h3 : 0 ≤ b) (h4 : b ≤ 1000) (h : held a = held b) : a = b := by unfold held at h; omega
theorem held_lt (a : Int) : held a < 256 ^ 6 := by have := held_le a; omega
theorem doB_inj {d e : Dw} (hd : okE d) (he : okE e) {r s : List UInt8} (h : doB d ++ r = doB e ++ s) : d = e ∧ r = s := by
  obtain ⟨a, b, c⟩ := d
  obtain ⟨a', b', c'⟩ := e
  obtain ⟨h1, h2, h3, h4, h5⟩ := hd
  obtain ⟨g1, g2, g3, g4, g5⟩ := he
  simp only [doB, List.append_assoc] at h
  simp only at h1 h2 h3 h4 h5 g1 g2 g3 g4 g5
  obtain ⟨e1, k1⟩ := List.append_inj h (by simp [be_length])
  obtain ⟨e2, k2⟩ := List.append_inj k1 (by simp [be_length])
  obtain ⟨e3, k3⟩ := List.append_inj k2 (by simp [be_length])
  have e3 := be6_inj (by omega) (by omega) e3
  obtain ⟨e4, k4⟩ := List.append_inj k3 e3
  have e1 := held_inj h1 h2 g1 g2 (be6_inj (held_lt _) (held_lt _) e1)
  have e2 := held_inj h3 h4 g3 g4 (be6_inj (held_lt _) (held_lt _) e2)
  subst e1; subst e2; subst e4
  exact ⟨rfl, k4⟩
theorem fm_inj : ∀ (l k : List Dw), l.length = k.length → (∀ d ∈ l, okE d) → (∀ d ∈ k, okE d) → l.flatMap doB = k.flatMap doB → l = k
  | [], [], _, _, _, _ => rfl
  | d :: l, e :: k, hl, h1, h2, h => by
    simp only [List.flatMap_cons] at h
    obtain ⟨e1, e2⟩ := doB_inj (h1 d (by simp)) (h2 e (by simp)) h
    rw [e1, fm_inj l k (by simpa using hl) (fun x hx => h1 x (by simp [hx])) (fun x hx => h2 x (by simp [hx])) e2]
theorem actB_inj {l k : List Dw} (hl : l.length ≤ 1000) (hk : k.length ≤ 1000) (h1 : ∀ d ∈ l, okE d) (h2 : ∀ d ∈ k, okE d) (h : actB l = actB k) : l = k := by
  unfold actB at h
  obtain ⟨e1, e2⟩ := List.append_inj h (by simp [be_length])
  exact fm_inj l k (be6_inj (by omega) (by omega) e1) h1 h2 e2

/-! ## one number turned -/
theorem fm_set : ∀ (l : List Dw) (i : Nat) (h : i < l.length) (w : Int), (l.set i (l[i].1, w, l[i].2.2)).flatMap dcs = (l.flatMap dcs).set (i * 3 + 1) (iv w)
  | d :: l, 0, _, w => by obtain ⟨a, b, c⟩ := d; simp [dcs]
  | d :: l, i + 1, h, w => by
    obtain ⟨a, b, c⟩ := d
    have := fm_set l i (by simpa using h) w
    simp only [List.set_cons_succ, List.getElem_cons_succ, List.flatMap_cons, this]
    have e : (i + 1) * 3 + 1 = (i * 3 + 1) + 3 := by omega
    rw [e]
    simp [dcs]
theorem ds_turn {M0 M : Store} {v : Value} {l : List Dw} (h : NDS M0 M v l) {i : Nat} (hi : i < l.length) (w : Int) {K : Store → Prop}
    (hK : ∀ M' b, M0.n ≤ b → Ch [b] M M' → NDS M0 M' v (l.set i (l[i].1, w, l[i].2.2)) → K M') : (OP (ixA 3 v (iv (i : Int))) fun p => OP (fad 1 p) fun p => OP (st 1 p (iv w) M) K) := by
  obtain ⟨h1, ⟨h2, _⟩ | ⟨b, cells, c, rfl, hb, h6, h7, h8, h9⟩⟩ := h
  · omega
  · have e : ixA 3 (.slice (some ⟨b, 0, none⟩) l.length c) (iv (i : Int)) = some (.pointer (some ⟨b, i * 3, none⟩)) := by
      simp only [ixA, iv]; rw [if_pos ⟨by omega, by omega, trivial⟩]; simp
    rw [e, OP_some, e_fad]
    refine s_st1 (i := i * 3 + 1) (b := b) (cells := cells) (T := Ty.api_Do) h6 (by omega) rfl rfl fun M1 c1 o1 n1 => ?_
    refine hK M1 b hb c1 ⟨?_, .inr ⟨b, cells.set (i * 3 + 1) (iv w), c, ?_, hb, o1, ?_, ?_, ?_⟩⟩
    · rw [fm_set l i hi, List.length_set, List.length_set, h1]
    · rw [List.length_set]
    · rw [List.length_set, List.length_set]; exact h7
    · rw [fm_set l i hi, List.length_set, List.take_set, h8]
    · rw [List.length_set]; exact h9

/-! ## the law -/
theorem apart_end {M : Store} {v w : Value} {l k : List Dw} (h : DS M v l) (g : DS M w k) (hl : l.length ≤ 20) (hk : k.length ≤ 20) (h1 : ∀ d ∈ l, okE d) (h2 : ∀ d ∈ k, okE d) {Q : Value → Store → Prop} (hQ : ∀ M, Q (tv true) M) :
    P_fettlelaw6_ActsApart_1 v w M Q := by
  apply T_fettlelaw6_ActsApart_1
  unfold S_fettlelaw6_ActsApart_1
  refine (ABytes_ok h (by omega) fun d hd => by have := (h1 d hd).2.2.2.2; omega).mono fun r1 M1 ⟨u1, b1⟩ => ⟨u1.tdx _ _ _, ?_⟩
  rw [cvBS_ok b1.by, OP_some]
  refine (ABytes_ok (Sl.up g u1) (by omega) fun d hd => by have := (h2 d hd).2.2.2.2; omega).mono fun r2 M2 ⟨u2, b2⟩ => ⟨u2.tdj _ _, ?_⟩
  rw [cvBS_ok b2.by, OP_some]
  show OP (binS .eql (sv (actB l)) (sv (actB k))) _
  rw [sv_eq]
  refine (SameAct_ok (Sl.up h (u1.trans u2)) (Sl.up g (u1.trans u2)) (by omega)).mono fun r3 M3 ⟨e3, hr⟩ => ?_
  subst e3
  subst hr
  refine ⟨Up.tdj (Ch.refl _ _) _ _, ?_⟩
  have e : decide (actB l = actB k) = decide (l = k) := by
    by_cases hlk : l = k
    · subst hlk; simp
    · rw [decide_eq_false hlk, decide_eq_false fun hh => hlk (actB_inj (by omega) (by omega) h1 h2 hh)]
  show OP (abin Tryd.prog false .eql Ty.bool (tv (decide (actB l = actB k))) (tv (decide (l = k)))) _
  rw [bool_eq', e, beq_self_eq_true]
  show R _ _ _ _
  exact awake6_ok ⟨Up.tdx (Ch.refl _ _) _ _ _, rfl, hQ _⟩
theorem ActsApart_ok {M : Store} {x0 x1 : Value} {ls ms : List Int} {at' : Int} {same : Bool} (h0 : LV iv Ty.int M x0 ls) (h1 : LV iv Ty.int M x1 ms) : R F.fettlelaw6_ActsApart #[x0, x1, iv at', .bool same] M fun v M' => v = tv true := by
  refine R.cps fun Q hQ => ?_
  apply T_fettlelaw6_ActsApart
  unfold S_fettlelaw6_ActsApart
  refine (Act_ok h0).mono fun v M1 ⟨u1, l, hv, l6, l1, ld⟩ => ?_
  refine (Act_ok (h1.up u1)).mono fun w M2 ⟨u2, k, hw, k6, k1, kd⟩ => ?_
  have hv2 : DS M2 v l := Sl.up hv.sl u2
  rw [BR_bool]
  split
  · rw [show bldL (.agg #[(.int .i64 0), (.int .i64 0), (.string ⟨#[]⟩)]) 3 0 [] = some ([] : List Value) from by kernel_rfl, OP_some]
    refine s_lit (s := 3) (n := 0) rfl fun M3 u3 h3 o3 n3 => ?_
    refine NK.apps (M0 := M2) (Mb := M2) u3 (Nat.le_refl _) u3.n (xs := ([] : List Dw)) h3 (hv2.up u3) (by simp; omega) fun v' M4 hu4 hN4 hk4 _ => ?_
    rw [List.nil_append] at hN4
    have hv4 : DS M4 v l := hv2.up hu4
    show OP (binI .and (.int .i64 at') (.int .i64 ((255 : Nat) : Int))) _
    rw [e_andN at' 255 (by decide), OP_some, hN4.lv.len, OP_some, e_rem _ _ (by omega), OP_some]
    have hj : andN at' 255 % l.length < l.length := Nat.mod_lt _ (by omega)
    generalize andN at' 255 % l.length = j at *
    show OP (binI .shr (.int .i64 at') (.int .u64 ((8 : Nat) : Int))) _
    rw [e_shrN _ 8 (by decide)]
    show OP (binI .and (.int .i64 (shrN at' 8)) (.int .i64 ((1 : Nat) : Int))) _
    rw [e_andN (shrN at' 8) 1 (by decide), OP_some, eql_l 1 1 rfl, BR_dec]
    split
    · have hdj := ld _ (List.getElem_mem hj)
      show OP (ixA 3 v' (iv (j : Int))) _
      rw [ds_fld hN4.lv hj (f := 1) (w := iv l[j].2.1) rfl]
      obtain ⟨q, hq⟩ := Int.eq_ofNat_of_zero_le hdj.2.2.1
      have hq2 := hdj.2.2.2.1
      have hq3 : q ≤ 255 := by omega
      rw [hq, add1_n _ (by omega)]
      refine ds_turn hN4 hj _ fun M5 b hb c5 hN5 => ?_
      have hv5 : DS M5 v l := hv2.up (hu4.ch c5 (by simpa using hb))
      refine apart_end hv5 hN5.lv (by omega) (by simp; omega) (fun d hd => (ld d hd).e) (fun d hd => ?_) (fun M => hQ _ M rfl)
      rcases List.mem_or_eq_of_mem_set hd with hd | rfl
      · exact (ld d hd).e
      · exact ⟨hdj.e.1, hdj.e.2.1, by show (0 : Int) ≤ ((q + 1 : Nat) : Int); omega, by show ((q + 1 : Nat) : Int) ≤ 1000; omega, hdj.e.2.2.2.2⟩
    · exact apart_end hv4 hN4.lv (by omega) (by omega) (fun d hd => (ld d hd).e) (fun d hd => (ld d hd).e) (fun M => hQ _ M rfl)
  · exact apart_end hv2 hw.lv (by omega) (by omega) (fun d hd => (ld d hd).e) (fun d hd => (kd d hd).e) (fun M => hQ _ M rfl)
end Go.G
