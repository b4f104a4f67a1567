/- NeedTells: the two outputs are laid. -/
import Derived.Test.YtpacolplhcfamaaPY16g
import Derived.Test.YtpacolplhcfamaaPY16r
import Derived.Test.YtpacolplhcfamaaPY16s
import Derived.Test.YtpacolplhcfamaaPGGt
namespace Go.G
open Go.Ab Go.Proofs Go.RowKit
set_option linter.unusedVariables false
set_option linter.unusedSimpArgs false
set_option maxRecDepth 100000

theorem cvId_w {M0 M : Store} (hu : Up M0 M) {v : Value} {l : List UInt8} (h : N M0 M v l) (hl : l ≠ []) {K : Value → Store → Prop} (hK : ∀ M', Up M0 M' → N M0 M' v l → K v M') : OP2 (cvId v M) K := by
  obtain ⟨h1, ⟨h2, _⟩ | ⟨b, cells, c, rfl, h2, h3, h4, h5, h6⟩⟩ := h
  · exact absurd (List.length_eq_zero_iff.1 h2) hl
  · have hob : Ob M b cells Ty.uint8 := h3
    have e : cvId (.slice (some ⟨b, 0, none⟩) l.length c) M = some (.slice (some ⟨b, 0, none⟩) l.length c, M.set b (some (.inl (cells, Ty.uint8, true)))) := by
      simp only [cvId, h3]
      rw [if_pos (List.length_pos_iff.2 hl)]
    rw [e, OP2_some]
    exact hK _ (hu.ch (Ch.setO hob _) (by simpa using h2)) ⟨h1, .inr ⟨b, cells, c, rfl, h2, hob.setSt _, h4, h5, h6⟩⟩
/-- The rule's box. -/
def RuO (M : Store) (t : Nat) : Prop := ∃ cs, Ob M t cs Ty.api_Rule ∧ RuC M cs
theorem RuO.up {M M' : Store} {t : Nat} (h : RuO M t) (u : Up M M') : RuO M' t := by
  obtain ⟨cs, o, b1, b2, b3, e, h1, h2, vs, g1, g2⟩ := h
  exact ⟨cs, o.up u, b1, b2, b3, e, Sl.up h1 u, Sl.up h2 u, vs, Sl.up g1 u, g2.mono fun v x hx => Sl.up hx u⟩
theorem RuO.chS {M M' : Store} {t : Nat} {S : List Nat} (h : RuO M t) (c : Ch S M M') (ha : ∀ e, e = Ty.api_Rule ∨ e = Ty.string ∨ e = Ty.sl_api_Do ∨ e = Ty.api_Do → Away e M S) : RuO M' t := by
  obtain ⟨cs, o, b1, b2, b3, e, h1, h2, vs, g1, g2⟩ := h
  exact ⟨cs, Ob.away o (ha _ (by simp)) c, b1, b2, b3, e, Sl.chS h1 c (ha _ (by simp)), Sl.chS h2 c (ha _ (by simp)), vs, Sl.chS g1 c (ha _ (by simp)), g2.mono fun v x hx => Sl.chS hx c (ha _ (by simp))⟩
theorem RuO.acts {M : Store} {t : Nat} (h : RuO M t) : ∃ ac, (∀ K : Value → Prop, OP (ld 1 false (.pointer (some ⟨t, 3, none⟩)) M) K = K ac) ∧ Ls DS Ty.sl_api_Do M ac ruA := by
  obtain ⟨cs, o, b1, b2, b3, rfl, h1, h2, h3⟩ := h
  exact ⟨_, fun K => (rd5 o).2.2.2.1 K, h3⟩
theorem Away.one {e e' : TypeId} {M : Store} {b : Nat} {cells : List Value} (o : Ob M b cells e') (h : e ≠ e') : Away e M [b] := fun c hc => by
  have : c = b := by simpa using hc
  subst this
  exact .inl ⟨_, _, o, h⟩
abbrev kN (how : Int) (i : Nat) : Nat := andN (shrN how (3 * i)) 7
/-- What stands as the i-th output is laid. -/
structure NTS (M0 M : Store) (x0 x25 : Value) (inn : List UInt8) (how : Int) (bf r t b7 i : Nat) (fs : List Bool) (U last : Nat) (fl : Fl) : Prop where
  u : Up M0 M
  f : FSR M0 M bf r 1048576 U last fl
  hU : U ≤ 5000 * i
  hl : last ≤ i
  b0 : B M x0 inn
  os : LV sv Ty.string M x25 ruO
  ru : RuO M t
  o7 : Ob M b7 (fs.map tv) Ty.a2_bool
  h7 : M0.n ≤ b7
  lf : fs.length = 2
  fo : ∀ j, j < i → FileOk j (kN how j) inn ((fl (ruO.getD j [])).map (·.1))
  no : ∀ j, i ≤ j → j < 2 → fl (ruO.getD j []) = none
  ns : fl [115] = none
section
variable {M0 : Store} {x0 x25 : Value} {inn : List UInt8} {how : Int} {bf r t b7 i : Nat} {fs : List Bool} {U last : Nat} {fl : Fl} {Q : Value → Store → Prop}
theorem NTS.up {M M' : Store} (h : NTS M0 M x0 x25 inn how bf r t b7 i fs U last fl) (u : Up M M') : NTS M0 M' x0 x25 inn how bf r t b7 i fs U last fl :=
  ⟨h.u.trans u, h.f.up u, h.hU, h.hl, Sl.up h.b0 u, h.os.up u, h.ru.up u, h.o7.up u, h.h7, h.lf, h.fo, h.no, h.ns⟩
theorem ruO_ne {j k : Nat} (hj : j < 2) (hk : k < 2) (h : j ≠ k) : ruO.getD j [] ≠ ruO.getD k [] := by
  have hj : j = 0 ∨ j = 1 := by omega
  have hk : k = 0 ∨ k = 1 := by omega
  rcases hj with rfl | rfl <;> rcases hk with rfl | rfl <;> first | exact absurd rfl h | decide
theorem ruO_s {j : Nat} (hj : j < 2) : [115] ≠ ruO.getD j [] := by
  have hj : j = 0 ∨ j = 1 := by omega
  rcases hj with rfl | rfl <;> decide
theorem name_o {j : Nat} (hj : j < 2) : nameOk (ruO.getD j []) := by
  have hj : j = 0 ∨ j = 1 := by omega
  rcases hj with rfl | rfl
  · exact name_a
  · exact name_b
/-- A file is laid, or none. -/
theorem NTS.lay {M : Store} (h : NTS M0 M x0 x25 inn how bf r t b7 i fs U last fl) (hi : i < 2) {x9 x : Value} (hx9 : x9 = sv (ruO.getD i [])) {c : List UInt8} (hx : B M x c) (hc : c.length ≤ 5000) (hk : FileOk i (kN how i) inn (some c))
    (hQ : ∀ v M' U' last' fl', NTS M0 M' x0 x25 inn how bf r t b7 (i + 1) fs U' last' fl' → ∀ M1, Up M M1 → Ch [bf, r] M1 M' → Q v M') : R F.simf_FS_Put #[pB bf, x9, x] M Q := by
  subst hx9
  have hU := h.hU
  have hl := h.hl
  refine (Put_ok h.u h.f (name_o hi) hx (by omega) (by omega) (by decide) (by omega)).mono fun v M' ⟨u, ⟨M1, u1, c1⟩, _, hf⟩ => ?_
  have h1 := h.up u1
  have ha : ∀ e, e ≠ Ty.simf_FS → Away e M1 [bf, r] := fun e he => h1.f.away he
  refine hQ _ _ _ _ _ ⟨u, hf, by omega, by omega, Sl.chS h1.b0 c1 (ha _ (by decide)), Sl.chS h1.os c1 (ha _ (by decide)), h1.ru.chS c1 (fun e he => ha e (by rcases he with rfl | rfl | rfl | rfl <;> decide)), Ob.away h1.o7 (ha _ (by decide)) c1, h.h7, h.lf, ?_, ?_, ?_⟩ M1 u1 c1
  · intro j hj
    unfold putF
    by_cases e : j = i
    · subst e
      rw [if_pos rfl]; exact hk
    · rw [if_neg (ruO_ne (by omega) hi e)]; exact h.fo j (by omega)
  · intro j hj hj2
    unfold putF
    rw [if_neg (ruO_ne hj2 hi (by omega))]; exact h.no j (by omega) hj2
  · unfold putF
    rw [if_neg (ruO_s hi)]; exact h.ns
theorem NTS.skip {M : Store} (h : NTS M0 M x0 x25 inn how bf r t b7 i fs U last fl) (hk : FileOk i (kN how i) inn none) (hi : i < 2) : NTS M0 M x0 x25 inn how bf r t b7 (i + 1) fs U last fl :=
  ⟨h.u, h.f, by have := h.hU; omega, by have := h.hl; omega, h.b0, h.os, h.ru, h.o7, h.h7, h.lf, fun j hj => by
    by_cases e : j = i
    · subst e; rw [h.no j (Nat.le_refl _) hi]; exact hk
    · exact h.fo j (by omega), fun j hj hj2 => h.no j (by omega) hj2, h.ns⟩
/-- It is noted as an old one. -/
theorem NTS.note {M : Store} {j : Nat} (h : NTS M0 M x0 x25 inn how bf r t b7 i fs U last fl) (hj : j < 2) {K : Store → Prop}
    (hK : ∀ M', NTS M0 M' x0 x25 inn how bf r t b7 i (fs.set j true) U last fl → K M') : OP (ixP 1 2 (.pointer (some ⟨b7, 0, none⟩)) (nv j)) fun t77 => OP (st 1 t77 (.bool true) M) K := by
  rw [ixP_at hj .i64, OP_some]
  refine s_st1 (i := j) (w := tv true) h.o7 (by rw [List.length_map, h.lf]; exact hj) (cells_tv _) (oc_tv _) fun M1 c1 o1 _ => ?_
  have ha : ∀ e, Ty.a2_bool ≠ e → Away e M [b7] := fun e he => Away.one h.o7 he.symm
  refine hK _ ⟨h.u.ch c1 (by simpa using h.h7), h.f.keep (by decide) (by decide) (c1.keepT h.o7), h.hU, h.hl, Sl.chS h.b0 c1 (ha _ (by decide)), Sl.chS h.os c1 (ha _ (by decide)), h.ru.chS c1 (fun e he => ha e (by rcases he with rfl | rfl | rfl | rfl <;> decide)), by rw [List.map_set]; exact o1, h.h7, by simpa using h.lf, h.fo, h.no, h.ns⟩
theorem FSR.tdx {Mz M M2 M1 M' : Store} {bf r room U last : Nat} {fl : Fl} (h : FSR Mz M bf r room U last fl) (u : Up M M2) (u1 : Up M2 M1) (c : Ch [bf, r] M1 M') {bs Ns : List Nat} {j : Nat} (hN : Ns.getD 0 0 = M.n) : TDx bs Ns j M2 M' := by
  refine (Ch.trans' (Up.any u1) c fun b hb => .inl hb).tdxO fun b hb => ?_
  have a1 := h.away (e := Ty.string) (by decide) b hb
  have a2 := (h.up u).away (e := Ty.string) (by decide) b hb
  refine ⟨?_, ?_⟩
  · rcases a2 with ⟨_, _, e, _⟩ | ⟨_, e⟩ <;> rw [e] <;> rfl
  · rw [hN]
    rcases a1 with ⟨_, _, e, _⟩ | ⟨_, e⟩ <;> exact M.lt_of_get e
abbrev fsN (how : Int) (i : Nat) (fs : List Bool) : List Bool := if oldK (kN how i) = true then fs.set i true else fs
theorem prW_le {i : Nat} (hi : i < 2) {x : List UInt8} (hx : x.length ≤ 301) : (prW i x).length ≤ 400 := by rw [prW_len hi]; omega
theorem nt_case {M : Store} (hi : i < 2) (h : NTS M0 M x0 x25 inn how bf r t b7 i fs U last fl) (hin : inn.length ≤ 300) {x1 x9 x10 x11 x26 : Value} {v : List UInt8} (hx9 : x9 = sv (ruO.getD i [])) (h10 : B M x10 (prW i inn)) (h11 : B M x11 v) (hv : v.length ≤ 256)
    (hK : ∀ M' U' last' fl', NTS M0 M' x0 x25 inn how bf r t b7 (i + 1) (fsN how i fs) U' last' fl' → P_fettlelaw16_NeedTells_6 x0 x1 (pB bf) (pB t) (pB b7) x25 x26 (nv i) M' Q) {fl3 : Bool} (hfl : fl3 = decide (kN how i < 3)) :
    P_fettlelaw16_NeedTells_4 x0 x1 (pB bf) (pB t) (pB b7) (nv i) x9 x10 x11 x25 x26 (nv i) (nv (kN how i)) (tv fl3) M Q := by
  have hk7 := andN_le (shrN how (3 * i)) 7 (by decide)
  apply T_fettlelaw16_NeedTells_4
  unfold S_fettlelaw16_NeedTells_4
  subst hfl
  have l1 := prW_le hi (x := inn) (by omega)
  have hal : (ruA.getD i []).length ≤ 2 ^ 10 ∧ ∀ d ∈ ruA.getD i [], d.2.2.length ≤ 2 ^ 10 := by
    have : i = 0 ∨ i = 1 := by omega
    rcases this with rfl | rfl <;> decide
  have lay : ∀ (M1 : Store) (x : Value) (c : List UInt8), NTS M0 M1 x0 x25 inn how bf r t b7 i fs U last fl → B M1 x c → c.length ≤ 5000 → FileOk i (kN how i) inn (some c) → oldK (kN how i) = false →
      R F.simf_FS_Put #[pB bf, x9, x] M1 fun _ M2 => P_fettlelaw16_NeedTells_6 x0 x1 (pB bf) (pB t) (pB b7) x25 x26 (nv i) M2 Q := fun M1 x c h1 hx hc hk ho => by
    refine h1.lay hi hx9 hx hc hk fun v M' U' last' fl' h' _ _ _ => hK M' U' last' fl' ?_
    unfold fsN; rw [if_neg (by rw [ho]; decide)]; exact h'
  have layN : ∀ (M1 : Store) (x : Value) (c : List UInt8), NTS M0 M1 x0 x25 inn how bf r t b7 i fs U last fl → B M1 x c → c.length ≤ 5000 → FileOk i (kN how i) inn (some c) → oldK (kN how i) = true →
      R F.simf_FS_Put #[pB bf, x9, x] M1 fun _ M2 => OP (ixP 1 2 (pB b7) (nv i)) fun t77 => OP (st 1 t77 (.bool true) M2) fun M3 => P_fettlelaw16_NeedTells_6 x0 x1 (pB bf) (pB t) (pB b7) x25 x26 (nv i) M3 Q := fun M1 x c h1 hx hc hk ho => by
    refine h1.lay hi hx9 hx hc hk fun v M' U' last' fl' h' _ _ _ => h'.note hi fun M3 h3 => hK M3 U' last' fl' ?_
    unfold fsN; rw [if_pos ho]; exact h3
  rw [BR_dec]
  split
  · rename_i hk
    refine (RMake_ok h10 h11 (by omega) (by omega)).mono fun y M1 ⟨u1, hN1⟩ => ?_
    refine lay M1 y _ (h.up u1) hN1.by (by rw [makeF_length]; omega) (.inl ⟨hk, v, hv, rfl⟩) ?_
    unfold oldK
    rw [decide_eq_false (by omega), decide_eq_false (by omega), decide_eq_false (by omega), decide_eq_false (by omega)]; rfl
  rename_i hk3
  rw [eql_l 3 3 rfl, BR_dec]
  split
  · rename_i hk
    refine (h.skip (.inr (.inl ⟨hk, rfl⟩)) hi).note hi fun M3 h3 => hK M3 U last fl ?_
    unfold fsN; rw [if_pos (by rw [hk]; rfl)]; exact h3
  rename_i hk3'
  rw [eql_l 4 4 rfl, BR_dec]
  split
  · rename_i hk
    have e : ∀ K : List Value → Prop, OP (bldL (.int .u8 0) 1 4 [(0, (.int .u8 110)), (1, (.int .u8 111)), (2, (.int .u8 110)), (3, (.int .u8 101))]) K = K (noneS.map bv) := fun K => by kernel_rfl
    rw [e]
    refine s_lit (s := 1) (n := 4) rfl fun M1 u1 hN1 o1 n1 => ?_
    have hN1 : N M M1 (.slice (some ⟨M.n, 0, none⟩) 4 4) noneS := hN1
    refine cvId_w (M0 := M) u1 hN1 (by simp) fun M2 u2 hN2 => ?_
    exact layN M2 _ _ (h.up u2) hN2.by (by decide) (.inr (.inr (.inl ⟨hk, rfl⟩))) (by rw [hk]; rfl)
  rename_i hk4
  rw [eql_l 5 5 rfl, BR_dec]
  split
  · rename_i hk
    obtain ⟨ac, e1, hac⟩ := h.ru.acts
    simp only [fad0, e1]
    obtain ⟨q, d, e4, e5, hd⟩ := hac.at (show i < ruA.length from hi) .i64
    rw [e4, OP_some, e5, OP_some]
    have hd : DS M d (ruA.getD i []) := by
      have e : ruA[i] = ruA.getD i [] := by rw [List.getD_eq_getElem?_getD, List.getElem?_eq_getElem (show i < ruA.length from hi)]; rfl
      rw [← e]; exact hd
    have e1 : ∀ K : List Value → Prop, OP (bldL (.int .u8 0) 1 1 [(0, (.int .u8 1))]) K = K ([1].map bv) := fun K => bl_bv 1 K
    rw [e1]
    refine s_lit (s := 1) (n := 1) rfl fun M1 u1 hN1 o1 n1 => ?_
    have hN1 : N M M1 (.slice (some ⟨M.n, 0, none⟩) 1 1) [1] := hN1
    obtain ⟨w, M2, e2, u2, hN2, _, _, c2⟩ := NB.app u1 hN1 (Sl.up h.b0 u1) (by simp; omega)
    have u12 : Up M1 M2 := c2
    rw [e2, OP2_some]
    refine ⟨u12.tdj _ _, ?_⟩
    have hN2 : N M M2 w (1 :: inn) := hN2
    obtain ⟨wa, wc, rfl⟩ := hN2.sl.slice
    rw [bl_sl1]
    refine s_lit (s := 1) (n := 1) rfl fun M3 u3 hN3 o3 n3 => ?_
    have hBL : BB M3 (.slice (some ⟨M2.n, 0, none⟩) 1 1) [1 :: inn] := ⟨_, Nw.sl hN3, Sl.up hN2.by u3, trivial⟩
    have u03 := u2.trans u3
    refine (RPrint_ok (Sl.up hd u03) hal.1 hal.2 hBL (by simp) (fun x hx => by simp at hx; subst hx; rw [List.length_cons]; omega)).mono fun y M4 ⟨u4, hN4⟩ => ⟨u4.tdx _ _ _, ?_⟩
    have hN4 : N M3 M4 y (prW i (1 :: inn)) := hN4
    have l3 := prW_le hi (x := 1 :: inn) (by rw [List.length_cons]; omega)
    have u04 := u03.trans u4
    refine (RMake_ok hN4.by (Sl.up h11 u04) (by omega) (by omega)).mono fun z M5 ⟨u5, hN5⟩ => ⟨u5.tdx _ _ _, ?_⟩
    have u05 := u04.trans u5
    refine (h.up u05).lay hi hx9 hN5.by (by rw [makeF_length]; omega) (.inr (.inr (.inr (.inl ⟨hk, v, hv, rfl⟩)))) fun _ M6 U' last' fl' h6 M7 u7 c7 => ⟨h.f.tdx u05 u7 c7 rfl, ?_⟩
    refine h6.note hi fun M8 h8 => hK M8 U' last' fl' ?_
    unfold fsN; rw [if_pos (by rw [hk]; rfl)]; exact h8
  rename_i hk5
  rw [eql_l 6 6 rfl, BR_dec]
  split
  · rename_i hk
    obtain ⟨ac, e1, hac⟩ := h.ru.acts
    simp only [fad0, e1]
    have hsub : ∀ K : Value → Prop, OP (binI .sub (.int .i64 1) (nv i)) K = K (nv (1 - i)) := fun K => by
      show OP (binI .sub (iv ((1 : Nat) : Int)) (iv (i : Int))) K = _
      rw [sub_n 1 i (by omega) (by decide)]
    rw [hsub]
    have hi1 : 1 - i < 2 := by omega
    obtain ⟨q, d, e4, e5, hd⟩ := hac.at (show 1 - i < ruA.length from hi1) .i64
    rw [e4, OP_some, e5, OP_some]
    have hd : DS M d (ruA.getD (1 - i) []) := by
      have e : ruA[1 - i] = ruA.getD (1 - i) [] := by rw [List.getD_eq_getElem?_getD, List.getElem?_eq_getElem (show 1 - i < ruA.length from hi1)]; rfl
      rw [← e]; exact hd
    obtain ⟨xa, xc, rfl⟩ := h.b0.slice
    rw [bl_sl1]
    refine s_lit (s := 1) (n := 1) rfl fun M1 u1 hN1 o1 n1 => ?_
    have hBL : BB M1 (.slice (some ⟨M.n, 0, none⟩) 1 1) [inn] := ⟨_, Nw.sl hN1, Sl.up h.b0 u1, trivial⟩
    have hal' : (ruA.getD (1 - i) []).length ≤ 2 ^ 10 ∧ ∀ d ∈ ruA.getD (1 - i) [], d.2.2.length ≤ 2 ^ 10 := by
      have : i = 0 ∨ i = 1 := by omega
      rcases this with rfl | rfl <;> decide
    refine (RPrint_ok (Sl.up hd u1) hal'.1 hal'.2 hBL (by simp) (fun x hx => by simp at hx; subst hx; omega)).mono fun y M2 ⟨u2, hN2⟩ => ?_
    have hN2 : N M1 M2 y (prW (1 - i) inn) := hN2
    have l3 := prW_le hi1 (x := inn) (by omega)
    have u02 := u1.trans u2
    refine (RMake_ok hN2.by (Sl.up h11 u02) (by omega) (by omega)).mono fun z M3 ⟨u3, hN3⟩ => ?_
    exact layN M3 z _ (h.up (u02.trans u3)) hN3.by (by rw [makeF_length]; omega) (.inr (.inr (.inr (.inr (.inl ⟨hk, v, hv, rfl⟩))))) (by rw [hk]; rfl)
  rename_i hk6
  have hk : 7 ≤ kN how i := by omega
  have e : ∀ K : List Value → Prop, OP (bldL (.int .u8 0) 1 7 [(0, (.int .u8 115)), (1, (.int .u8 112)), (2, (.int .u8 111)), (3, (.int .u8 105)), (4, (.int .u8 108)), (5, (.int .u8 101)), (6, (.int .u8 100))]) K = K (spoilS.map bv) := fun K => by kernel_rfl
  rw [e]
  refine s_lit (s := 1) (n := 7) rfl fun M1 u1 hN1 o1 n1 => ?_
  have hN1 : N M M1 (.slice (some ⟨M.n, 0, none⟩) 7 7) spoilS := hN1
  refine cvId_w (M0 := M) u1 hN1 (by simp) fun M2 u2 hN2 => ?_
  refine (RMake_ok (Sl.up h10 u2) hN2.by (by omega) (by decide)).mono fun z M3 ⟨u3, hN3⟩ => ?_
  refine lay M3 z _ (h.up (u2.trans u3)) hN3.by (by rw [makeF_length]; have : spoilS.length = 7 := rfl; omega) (.inr (.inr (.inr (.inr (.inr ⟨hk, rfl⟩))))) ?_
  unfold oldK
  rw [decide_eq_false (by omega), decide_eq_false (by omega), decide_eq_false (by omega), decide_eq_false (by omega)]; rfl
end
end Go.G
